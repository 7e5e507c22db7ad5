/- The walks of a way: New, none, Counts, one. -/
import Derived.Test.YteflpekokgdllaaProg
import Derived.Test.YteflpekokgdllaaDataP
import Derived.Test.YteflpekokgdllaaFacts
import Derived.OwnWalk
namespace Go.Proofs.Yteflpekokgdllaa
open Go.RowKit
set_option linter.unusedSimpArgs false
set_option linter.unusedVariables false
set_option maxRecDepth 20000

def WyAt (w : World) (b : Nat) (x : Wy) : Prop := Blk w b 83 x.cells
theorem wrapu_sub (a b : Int) : IntKind.u16.wrap (IntKind.u16.wrap b - IntKind.u16.wrap a) = (b - a) % 65536 := by
  simp [IntKind.wrap, IntKind.bits, IntKind.signed]
theorem wrapu (a : Int) : IntKind.u16.wrap a = a % 65536 := by
  simp [IntKind.wrap, IntKind.bits, IntKind.signed]
set_option maxHeartbeats 400000 in
theorem bef_any (a b : Int) (w : World) :
    Calls Try.prog 21 #[.int .i64 a, .int .i64 b] w fun e w' => e = .returned (.bool (bef a b)) ∧ w = w' := by
  go_enter Try.func21, Try.ntmps21
  go_wp2
  all_goals
    go_ret
    refine ⟨?_, rfl⟩
    simp_all [bef, wrapu_sub]
  all_goals omega
set_option maxHeartbeats 400000 in
theorem way_none (b : Nat) (x : Wy) (w : World) (h : WyAt w b x) (ht : x.tunnel ≠ 0) :
    Calls Try.prog 34 #[.pointer (some ⟨b, 0, none⟩)] w fun e w' => e = .returned (.bool false) ∧ w = w' := by
  have g0 := Blk.cell h 0
  simp [Wy.cells] at g0
  have t0 : (x.tunnel == 0) = false := by simpa using ht
  clear h ht
  go_enter Try.func34, Try.ntmps34
  go_wp2_with fail
  go_ret
  exact ⟨rfl, rfl⟩
set_option maxHeartbeats 400000 in
theorem way_none_nil (w : World) :
    Calls Try.prog 34 #[.pointer none] w fun e w' => e = .returned (.bool true) ∧ w = w' := by
  go_enter Try.func34, Try.ntmps34
  go_wp2_with fail
  go_ret
  exact ⟨rfl, rfl⟩
set_option maxHeartbeats 400000 in
theorem one_any (b i : Nat) (t : TypeId) (cs : Array Value) (n : Int) (w : World) (hb : Blk w b t cs) (hi : cs[i]? = some (.int .i64 n)) (hn : 0 ≤ n ∧ n ≤ 4611686018427387904) :
    Calls Try.prog 36 #[.pointer (some ⟨b, i, none⟩)] w fun e w' => e = .returned (.tuple #[]) ∧ Blk w' b t (cs.setIfInBounds i (.int .i64 (up1 n))) ∧ Upd [b] w w' := by
  have hc := hb.cell i
  rw [hi] at hc
  have hf := hb.frozen i
  have HB := Lib.hid hb
  have HU : Hid (min (n + 1) 4611686018427387904 = up1 n) := rfl
  clear hb hi
  go_enter Try.func36, Try.ntmps36
  go_wp2_with fail
  go_end0
  refine ⟨rfl, ?_, ?_⟩
  · exact HB.out.set_ _ _
  · exact (Upd.refl _ _).setCell _ (by simp)
set_option maxHeartbeats 400000 in
theorem counts_any (b : Nat) (x : Wy) (w : World) (h : WyAt w b x) (ht : x.tunnel ≠ 0) :
    Calls Try.prog 19 #[.pointer (some ⟨b, 0, none⟩)] w fun e w' => e = .returned (.tuple #[.int .i64 x.put, .int .i64 x.taken, .int .i64 x.missed]) ∧ Upd [] w w' := by
  have g6 := Blk.cell h 6
  have g7 := Blk.cell h 7
  have g8 := Blk.cell h 8
  simp [Wy.cells] at g6 g7 g8
  have H := Lib.hid h
  clear h
  go_enter Try.func19, Try.ntmps19
  go_wp2_with fail
  refine (way_none b x _ H.out ht).mono ?_
  rintro e w1 ⟨rfl, rfl⟩
  go_wp2_with fail
  go_quiet (fail)
  go_wp2_with fail
  go_ret3
  exact ⟨rfl, (Upd.refl _ _).drewN _⟩
set_option maxHeartbeats 400000 in
theorem counts_nil (w : World) :
    Calls Try.prog 19 #[.pointer none] w fun e w' => e = .returned (.tuple #[.int .i64 0, .int .i64 0, .int .i64 0]) ∧ Upd [] w w' := by
  go_enter Try.func19, Try.ntmps19
  go_wp2_with fail
  refine (way_none_nil _).mono ?_
  rintro e w1 ⟨rfl, rfl⟩
  go_wp2_with fail
  go_ret3
  exact ⟨rfl, Upd.refl _ _⟩

def inWord (n : Int) : Bool := decide (1 ≤ n) && decide (n ≤ 65535)
set_option maxHeartbeats 400000 in
theorem new1_any (n : Int) (w : World) :
    Calls Try.prog 33 #[.int .i64 n] w fun e w' => e = .returned (.bool (inWord n)) ∧ w = w' := by
  by_cases t1 : 1 ≤ n
  · go_enter Try.func33, Try.ntmps33
    go_wp2_with fail
    go_ret
    exact ⟨by simp [inWord, t1], rfl⟩
  · go_enter Try.func33, Try.ntmps33
    go_wp2_with fail
    go_ret
    exact ⟨by simp [inWord]; omega, rfl⟩
def Wy.new (t s : Int) (q : Bool) : Wy := ⟨t, s, q, 0, 0, false, 0, 0, 0⟩
def newOk (t s : Int) : Bool := inWord t && inWord s
set_option maxHeartbeats 1000000 in
theorem new_any (t s : Int) (q : Bool) (w : World) :
    Calls Try.prog 13 #[.int .i64 t, .int .i64 s, .bool q] w fun e w' =>
      if newOk t s = true then e = .returned (.tuple #[.pointer (some ⟨w.heap.size, 0, none⟩), .int .i64 0]) ∧ WyAt w' w.heap.size (.new t s q) ∧ Upd [] w w'
      else e = .returned (.tuple #[.pointer none, .int .i64 1]) ∧ Upd [] w w' := by
  have hcf : ∀ x W, (callFunc 33 #[x]).run Try.prog W = .ok (.enter 33 #[x]) W := fun x W => by kernel_rfl
  by_cases t1 : inWord t = true
  · by_cases t2 : inWord s = true
    · have HK : Hid (newOk t s = true) := by show _ = _; rw [newOk, t1, t2]; rfl
      simp only [HK.out, ↓reduceIte]
      go_enter Try.func13, Try.ntmps13
      go_wp2_with (go_at_call 33; refine (new1_any _ _).mono ?_; rintro e w' ⟨rfl, rfl⟩; first | rw [t1] | rw [t2])
      go_ret2
      exact ⟨rfl, Blk.new _ _ _, (Upd.refl _ _).alloc _⟩
    · have t2 : inWord s = false := by simpa using t2
      have HK : Hid (newOk t s = false) := by show _ = _; rw [newOk, t1, t2]; rfl
      simp only [HK.out, Bool.false_eq_true, ↓reduceIte]
      go_enter Try.func13, Try.ntmps13
      go_wp2_with (go_at_call 33; refine (new1_any _ _).mono ?_; rintro e w' ⟨rfl, rfl⟩; first | rw [t1] | rw [t2])
      go_ret2
      exact ⟨rfl, Upd.refl _ _⟩
  · have t1 : inWord t = false := by simpa using t1
    have HK : Hid (newOk t s = false) := by show _ = _; rw [newOk, t1]; rfl
    simp only [HK.out, Bool.false_eq_true, ↓reduceIte]
    go_enter Try.func13, Try.ntmps13
    go_wp2_with (go_at_call 33; refine (new1_any _ _).mono ?_; rintro e w' ⟨rfl, rfl⟩; first | rw [t1] | rw [t2])
    go_ret2
    exact ⟨rfl, Upd.refl _ _⟩
end Go.Proofs.Yteflpekokgdllaa
