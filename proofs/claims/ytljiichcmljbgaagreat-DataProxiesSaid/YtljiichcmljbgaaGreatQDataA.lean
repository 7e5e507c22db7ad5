/- The walks of a way: New, none, Counts, one. The walk of msg.PutLoad at numbers of two bytes. The walks of a way's Put and Get. The walk of a way's Get. -/
import Derived.Test.YtljiichcmljbgaaGreatProg
import Derived.OwnWalk
import Derived.Test.YtljiichcmljbgaaGreatQAvpA
import Derived.Test.YtljiichcmljbgaaGreatQFacts
import Derived.Test.YtljiichcmljbgaaGreatQLib
namespace Go.Proofs.YtljiichcmljbgaaGreat
open Go.RowKit
set_option linter.unusedSimpArgs false
set_option linter.unusedVariables false
set_option maxRecDepth 100000

def WyAt (w : World) (b : Nat) (x : Wy) : Prop := Blk w b 135 x.cells
theorem wrapu_sub (a b : Int) : IntKind.u16.wrap (IntKind.u16.wrap b - IntKind.u16.wrap a) = (b - a) % 65536 := by
  simp [IntKind.wrap, IntKind.bits, IntKind.signed]
theorem wrapu (a : Int) : IntKind.u16.wrap a = a % 65536 := by
  simp [IntKind.wrap, IntKind.bits, IntKind.signed]
set_option maxHeartbeats 400000 in
theorem bef_any (a b : Int) (w : World) :
    Calls Tryz.prog 114 #[.int .i64 a, .int .i64 b] w fun e w' => e = .returned (.bool (bef a b)) ∧ w = w' := by
  go_enter Tryz.func114, Tryz.ntmps114
  go_wp2
  all_goals
    go_ret
    refine ⟨?_, rfl⟩
    simp_all [bef, wrapu_sub]
  all_goals omega
set_option maxHeartbeats 400000 in
theorem way_none (b : Nat) (x : Wy) (w : World) (h : WyAt w b x) (ht : x.tunnel ≠ 0) :
    Calls Tryz.prog 113 #[.pointer (some ⟨b, 0, none⟩)] w fun e w' => e = .returned (.bool false) ∧ w = w' := by
  have g0 := Blk.cell h 0
  simp [Wy.cells] at g0
  have t0 : (x.tunnel == 0) = false := by simpa using ht
  clear h ht
  go_enter Tryz.func113, Tryz.ntmps113
  go_wp2_with fail
  go_ret
  exact ⟨rfl, rfl⟩
set_option maxHeartbeats 400000 in
theorem way_none_nil (w : World) :
    Calls Tryz.prog 113 #[.pointer none] w fun e w' => e = .returned (.bool true) ∧ w = w' := by
  go_enter Tryz.func113, Tryz.ntmps113
  go_wp2_with fail
  go_ret
  exact ⟨rfl, rfl⟩
set_option maxHeartbeats 400000 in
theorem one_any (b i : Nat) (t : TypeId) (cs : Array Value) (n : Int) (w : World) (hb : Blk w b t cs) (hi : cs[i]? = some (.int .i64 n)) (hn : 0 ≤ n ∧ n ≤ 4611686018427387904) :
    Calls Tryz.prog 115 #[.pointer (some ⟨b, i, none⟩)] w fun e w' => e = .returned (.tuple #[]) ∧ Blk w' b t (cs.setIfInBounds i (.int .i64 (up1 n))) ∧ Upd [b] w w' := by
  have hc := hb.cell i
  rw [hi] at hc
  have hf := hb.frozen i
  have HB := Lib.hid hb
  have HU : Hid (min (n + 1) 4611686018427387904 = up1 n) := rfl
  clear hb hi
  go_enter Tryz.func115, Tryz.ntmps115
  go_wp2_with fail
  go_end0
  refine ⟨rfl, ?_, ?_⟩
  · exact HB.out.set_ _ _
  · exact (Upd.refl _ _).setCell _ (by simp)
def inWord (n : Int) : Bool := decide (1 ≤ n) && decide (n ≤ 65535)
set_option maxHeartbeats 400000 in
theorem new1_any (n : Int) (w : World) :
    Calls Tryz.prog 112 #[.int .i64 n] w fun e w' => e = .returned (.bool (inWord n)) ∧ w = w' := by
  by_cases t1 : 1 ≤ n
  · go_enter Tryz.func112, Tryz.ntmps112
    go_wp2_with fail
    go_ret
    exact ⟨by simp [inWord, t1], rfl⟩
  · go_enter Tryz.func112, Tryz.ntmps112
    go_wp2_with fail
    go_ret
    exact ⟨by simp [inWord]; omega, rfl⟩
def Wy.new (t s : Int) (q : Bool) : Wy := ⟨t, s, q, 0, 0, false, 0, 0, 0⟩
def newOk (t s : Int) : Bool := inWord t && inWord s
set_option maxHeartbeats 1000000 in
theorem new_any (t s : Int) (q : Bool) (w : World) :
    Calls Tryz.prog 21 #[.int .i64 t, .int .i64 s, .bool q] w fun e w' =>
      if newOk t s = true then e = .returned (.tuple #[.pointer (some ⟨w.heap.size, 0, none⟩), .int .i64 0]) ∧ WyAt w' w.heap.size (.new t s q) ∧ Upd [] w w'
      else e = .returned (.tuple #[.pointer none, .int .i64 1]) ∧ Upd [] w w' := by
  have hcf : ∀ x W, (callFunc 112 #[x]).run Tryz.prog W = .ok (.enter 112 #[x]) W := fun x W => by kernel_rfl
  by_cases t1 : inWord t = true
  · by_cases t2 : inWord s = true
    · have HK : Hid (newOk t s = true) := by show _ = _; rw [newOk, t1, t2]; rfl
      simp only [HK.out, ↓reduceIte]
      go_enter Tryz.func21, Tryz.ntmps21
      go_wp2_with (go_at_call 112; refine (new1_any _ _).mono ?_; rintro e w' ⟨rfl, rfl⟩; first | rw [t1] | rw [t2])
      go_ret2
      exact ⟨rfl, Blk.new _ _ _, (Upd.refl _ _).alloc _⟩
    · have t2 : inWord s = false := by simpa using t2
      have HK : Hid (newOk t s = false) := by show _ = _; rw [newOk, t1, t2]; rfl
      simp only [HK.out, Bool.false_eq_true, ↓reduceIte]
      go_enter Tryz.func21, Tryz.ntmps21
      go_wp2_with (go_at_call 112; refine (new1_any _ _).mono ?_; rintro e w' ⟨rfl, rfl⟩; first | rw [t1] | rw [t2])
      go_ret2
      exact ⟨rfl, Upd.refl _ _⟩
  · have t1 : inWord t = false := by simpa using t1
    have HK : Hid (newOk t s = false) := by show _ = _; rw [newOk, t1]; rfl
    simp only [HK.out, Bool.false_eq_true, ↓reduceIte]
    go_enter Tryz.func21, Tryz.ntmps21
    go_wp2_with (go_at_call 112; refine (new1_any _ _).mono ?_; rintro e w' ⟨rfl, rfl⟩; first | rw [t1] | rw [t2])
    go_ret2
    exact ⟨rfl, Upd.refl _ _⟩
end Go.Proofs.YtljiichcmljbgaaGreat
namespace Go.Proofs.YtljiichcmljbgaaGreat
open Go.RowKit
set_option linter.unusedSimpArgs false
set_option linter.unusedVariables false
set_option maxRecDepth 100000

theorem wordsOfI_size (l : List Int) (s : ByteArray) : (wordsOf l s).size = s.size + 2 * l.length := by
  induction l generalizing s with
  | nil => rfl
  | cons n l ih => rw [wordsOf, ih, ByteArray.size_append, be_size, List.length_cons]; omega
end Go.Proofs.YtljiichcmljbgaaGreat
namespace Go.Proofs.YtljiichcmljbgaaGreat
open Go.RowKit
set_option linter.unusedSimpArgs false
set_option linter.unusedVariables false
set_option maxRecDepth 100000

theorem WyAt.cells {w : World} {b : Nat} {x : Wy} (h : WyAt w b x) : w.cell? ⟨b, 0, none⟩ = some (.int .i64 x.tunnel) ∧ w.cell? ⟨b, 1, none⟩ = some (.int .i64 x.session) ∧ w.cell? ⟨b, 2, none⟩ = some (.bool x.seq) ∧ w.cell? ⟨b, 3, none⟩ = some (.int .u16 x.next) ∧ w.cell? ⟨b, 4, none⟩ = some (.int .i64 x.last) ∧ w.cell? ⟨b, 5, none⟩ = some (.bool x.came) :=
  ⟨Blk.cell h 0, Blk.cell h 1, Blk.cell h 2, Blk.cell h 3, Blk.cell h 4, Blk.cell h 5⟩
theorem wrap_next (n : Int) (h : 0 ≤ n ∧ n < 65536) : IntKind.u16.wrap (n + 1) = (n + 1) % 65536 := by
  simp [IntKind.wrap, IntKind.bits, IntKind.signed]

end Go.Proofs.YtljiichcmljbgaaGreat
namespace Go.Proofs.YtljiichcmljbgaaGreat
open Go.RowKit
set_option linter.unusedSimpArgs false
set_option linter.unusedVariables false
set_option maxRecDepth 100000

theorem wrap_u16 (n : Int) : IntKind.u16.wrap n = n % 65536 := by simp [IntKind.wrap, IntKind.bits, IntKind.signed]
set_option maxHeartbeats 4000000 in
theorem wayGet_any (b : Nat) (x : Wy) (l : Ld) (w : World) (h : WyAt w b x) (hx : x.ok) :
    Calls Tryz.prog 22 #[.pointer (some ⟨b, 0, none⟩), l.agg] w fun e w' => e = .returned (.tuple #[.string (x.get l).2.1, .bool (x.get l).2.2]) ∧ WyAt w' b (x.get l).1 ∧ Upd [b] w w' := by
  have ht : x.tunnel ≠ 0 := by have := hx.tunnel; omega
  have HX := Lib.hid hx
  have H := Lib.hid h
  have hlt := Blk.lt h
  obtain ⟨ltu, lse, lsq, lns, lnr, ldat⟩ := l
  obtain ⟨A, hA⟩ : ∃ A, A = Obj.cells #[.int .i64 ltu, .int .i64 lse, .bool lsq, .int .i64 lns, .int .i64 lnr, .string ldat] 75 := ⟨_, rfl⟩
  have A0 : Blk (w.alloc A) w.heap.size 75 #[.int .i64 ltu, .int .i64 lse, .bool lsq, .int .i64 lns, .int .i64 lnr, .string ldat] := by rw [hA]; exact Blk.new _ _ _
  have U0 : Hid (Upd [] w (w.alloc A)) := (Upd.refl [] w).alloc A
  have HB : Hid (WyAt (w.alloc A) b x) := Blk.upd h U0.out (by simp)
  have hlt2 := Blk.lt HB.out
  have HLB := Lib.hid A0
  have HA := Lib.hid hA
  have hne : b ≠ w.heap.size := by omega
  have hwr : True → IntKind.u16.wrap lns = lns % 65536 := fun _ => wrap_u16 lns
  have hwn : True → wrap64 (lns % 65536) = lns % 65536 := fun _ => IntWalk.wrap64_in _ (by omega)
  clear hx h hA
  have HL : Hid (∀ V, Upd [b] (w.alloc A) V → V.cell? ⟨w.heap.size, 2, none⟩ = some (.bool lsq) ∧ V.cell? ⟨w.heap.size, 3, none⟩ = some (.int .i64 lns) ∧ V.cell? ⟨w.heap.size, 5, none⟩ = some (.string ldat)) := fun V hu =>
    ⟨(A0.upd hu (by simp; omega)).cell 2, (A0.upd hu (by simp; omega)).cell 3, (A0.upd hu (by simp; omega)).cell 5⟩
  clear A0
  by_cases t1 : x.seq = true ∧ lsq = true
  · obtain ⟨tq, rfl⟩ := t1
    by_cases t2 : x.late ⟨ltu, lse, true, lns, lnr, ldat⟩ = true
    · have e1 : x.get ⟨ltu, lse, true, lns, lnr, ldat⟩ = ({ x with missed := up1 x.missed }, ⟨#[]⟩, false) := by rw [Wy.get, if_pos ⟨tq, rfl⟩, if_pos t2]
      rw [e1]
      simp only [Wy.late, Bool.and_eq_true, Bool.or_eq_true, decide_eq_true_eq] at t2
      obtain ⟨tc, t2⟩ := t2
      clear e1
      obtain ⟨g0, g1, g2, g3, g4, g5⟩ := HB.out.cells
      obtain ⟨l2, l3, l5⟩ := HL.out _ (Upd.refl _ _)
      rw [tq] at g2
      rw [tc] at g5
      obtain ⟨y, hy⟩ : ∃ y, y = lns % 65536 := ⟨_, rfl⟩
      rw [← hy] at hwr hwn t2
      have HY := Lib.hid hy
      clear hy
      by_cases t3 : y = x.last
      focus
        have t3' : (y == x.last) = true := by simpa using t3
        have HT3 := Lib.hid t3
        clear t3 t2
      rotate_left
      focus
        have t2' : bef y x.last = true := by
          rcases t2 with t2 | t2
          · exact absurd t2 t3
          · exact t2
        have t3' : (y == x.last) = false := by simpa using t3
        have HT3 := Lib.hid t2'
        clear t3 t2 t2'
      all_goals
        go_enter Tryz.func22, Tryz.ntmps22
        simp only [Ld.agg]
        go_wp2_with fail
        rw [← HA.out]
        refine (way_none b x _ HB.out ht).mono ?_
        rintro e w1 ⟨rfl, rfl⟩
        go_wp2_with (go_at_call 114; refine (bef_any _ _ _).mono ?_; rintro e w' ⟨rfl, rfl⟩; rw [HT3.out])
        refine (one_any b 8 _ _ x.missed _ HB.out rfl HX.out.missed).mono ?_
        rintro e w3 ⟨rfl, hb3, hu3⟩
        go_wp2_with fail
        go_ret2
        exact ⟨rfl, hb3, (U0.out.more).trans hu3⟩
    · have e1 : x.get ⟨ltu, lse, true, lns, lnr, ldat⟩ = ({ x with last := lns % 65536, came := true, taken := up1 x.taken }, ldat, true) := by rw [Wy.get, if_pos ⟨tq, rfl⟩, if_neg t2]
      rw [e1]
      obtain ⟨y, hy⟩ : ∃ y, y = lns % 65536 := ⟨_, rfl⟩
      simp only [Wy.late, Bool.and_eq_true, Bool.or_eq_true, decide_eq_true_eq] at t2
      rw [← hy] at hwr hwn t2
      rw [← hy]
      have HY := Lib.hid hy
      clear e1 hy
      obtain ⟨g0, g1, g2, g3, g4, g5⟩ := HB.out.cells
      obtain ⟨l2, l3, l5⟩ := HL.out _ (Upd.refl _ _)
      have f4 := Blk.frozen HB.out 4
      have f5 := Blk.frozen HB.out 5
      rw [tq] at g2
      by_cases tc : x.came = true
      focus
        rw [tc] at g5
        have t3' : (y == x.last) = false := by simpa using fun e => t2 ⟨tc, .inl e⟩
        have t4' : bef y x.last = false := by simpa using fun e => t2 ⟨tc, .inr e⟩
        have HT4 := Lib.hid t4'
        clear t2 t4' tc
      rotate_left
      focus
        have tc' : x.came = false := by simpa using tc
        rw [tc'] at g5
        have HT4 : Hid (bef y x.last = bef y x.last) := rfl
        clear t2 tc tc'
      all_goals
        go_enter Tryz.func22, Tryz.ntmps22
        simp only [Ld.agg]
        go_wp2_with fail
        rw [← HA.out]
        clear HA
        generalize w.alloc A = wA at *
        refine (way_none b x _ HB.out ht).mono ?_
        rintro e w1 ⟨rfl, rfl⟩
        go_wp2_with (go_at_call 114; refine (bef_any _ _ _).mono ?_; rintro e w' ⟨rfl, rfl⟩; rw [HT4.out])
        have HB3 : Hid (Blk ((wA.setCell ⟨b, 4, none⟩ (.int .i64 y)).setCell ⟨b, 5, none⟩ (.bool true)) b 135 ({ x with last := y, came := true } : Wy).cells) := ((HB.out.set_ 4 _).set_ 5 _)
        have hu2 : Upd [b] wA ((wA.setCell ⟨b, 4, none⟩ (.int .i64 y)).setCell ⟨b, 5, none⟩ (.bool true)) := (((Upd.refl _ _).setCell _ (by simp)).setCell _ (by simp))
        refine (one_any b 7 _ _ x.taken _ HB3.out rfl HX.out.taken).mono ?_
        rintro e w3 ⟨rfl, hb3, hu3⟩
        clear l2 l3 l5 g0 g1 g2 g3 g4 g5
        obtain ⟨l2, l3, l5⟩ := HL.out _ (hu2.trans hu3)
        go_wp2_with fail
        go_ret2
        exact ⟨rfl, hb3, (U0.out.more).trans (hu2.trans hu3)⟩
  · have e1 : x.get ⟨ltu, lse, lsq, lns, lnr, ldat⟩ = ({ x with taken := up1 x.taken }, ldat, true) := by rw [Wy.get, if_neg t1]
    rw [e1]
    clear e1
    obtain ⟨g0, g1, g2, g3, g4, g5⟩ := HB.out.cells
    obtain ⟨l2, l3, l5⟩ := HL.out _ (Upd.refl _ _)
    by_cases tq : x.seq = true
    focus
      have tl : lsq = false := by simpa using fun e => t1 ⟨tq, e⟩
      subst tl
      rw [tq] at g2
      clear t1 tq
    rotate_left
    focus
      have tq' : x.seq = false := by simpa using tq
      rw [tq'] at g2
      clear t1 tq tq'
    all_goals
      go_enter Tryz.func22, Tryz.ntmps22
      simp only [Ld.agg]
      go_wp2_with fail
      rw [← HA.out]
      refine (way_none b x _ HB.out ht).mono ?_
      rintro e w1 ⟨rfl, rfl⟩
      go_wp2_with fail
      refine (one_any b 7 _ _ x.taken _ HB.out rfl HX.out.taken).mono ?_
      rintro e w3 ⟨rfl, hb3, hu3⟩
      clear l2 l3 l5 g0 g1 g2 g3 g4 g5
      obtain ⟨l2, l3, l5⟩ := HL.out _ hu3
      go_wp2_with fail
      go_ret2
      exact ⟨rfl, hb3, (U0.out.more).trans hu3⟩
set_option maxHeartbeats 400000 in
theorem wayGet_nil (l : Ld) (w : World) :
    Calls Tryz.prog 22 #[.pointer none, l.agg] w fun e w' => e = .returned (.tuple #[.string ⟨#[]⟩, .bool false]) ∧ Upd [] w w' := by
  simp only [Ld.agg]
  go_enter Tryz.func22, Tryz.ntmps22
  go_wp2_with fail
  refine (way_none_nil _).mono ?_
  rintro e w1 ⟨rfl, rfl⟩
  go_wp2_with fail
  go_ret2
  exact ⟨rfl, (Upd.refl _ _).alloc _⟩
end Go.Proofs.YtljiichcmljbgaaGreat
