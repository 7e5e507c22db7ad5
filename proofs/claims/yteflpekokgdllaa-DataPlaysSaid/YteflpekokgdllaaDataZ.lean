/- The walks of the document's own way: NewWay, Put, Get. -/
import Derived.Test.YteflpekokgdllaaDataY
namespace Go.Proofs.Yteflpekokgdllaa
open Go.RowKit
set_option linter.unusedSimpArgs false
set_option linter.unusedVariables false
set_option maxRecDepth 20000

/-- The document's own way, by the same parts. -/
def Wy.rcells (x : Wy) : Array Value := #[.int .i64 x.tunnel, .int .i64 x.session, .bool x.seq, .int .i64 x.next, .int .i64 x.last, .bool x.came, .int .i64 x.put, .int .i64 x.taken, .int .i64 x.missed]
def RwAt (w : World) (b : Nat) (x : Wy) : Prop := Blk w b 55 x.rcells
theorem RwAt.cells {w : World} {b : Nat} {x : Wy} (h : RwAt w b x) : w.cell? ⟨b, 0, none⟩ = some (.int .i64 x.tunnel) ∧ w.cell? ⟨b, 1, none⟩ = some (.int .i64 x.session) ∧ w.cell? ⟨b, 2, none⟩ = some (.bool x.seq) ∧ w.cell? ⟨b, 3, none⟩ = some (.int .i64 x.next) ∧ w.cell? ⟨b, 4, none⟩ = some (.int .i64 x.last) ∧ w.cell? ⟨b, 5, none⟩ = some (.bool x.came) :=
  ⟨Blk.cell h 0, Blk.cell h 1, Blk.cell h 2, Blk.cell h 3, Blk.cell h 4, Blk.cell h 5⟩
set_option maxHeartbeats 1000000 in
theorem rNew_any (t s : Int) (q : Bool) (w : World) :
    Calls Try.prog 14 #[.int .i64 t, .int .i64 s, .bool q] w fun e w' =>
      if newOk t s = true then e = .returned (.tuple #[.pointer (some ⟨w.heap.size, 0, none⟩), .int .i64 0]) ∧ RwAt w' w.heap.size (.new t s q) ∧ Upd [] w w'
      else e = .returned (.tuple #[.pointer none, .int .i64 1]) ∧ Upd [] w w' := by
  by_cases t1 : t < 1
  · have HK : Hid (newOk t s = false) := by show _ = _; simp [newOk, inWord]; omega
    simp only [HK.out, Bool.false_eq_true, ↓reduceIte]
    go_enter Try.func14, Try.ntmps14
    go_wp2_with fail
    go_ret2
    exact ⟨rfl, Upd.refl _ _⟩
  by_cases t2 : 65535 < t
  · have HK : Hid (newOk t s = false) := by show _ = _; simp [newOk, inWord]; omega
    simp only [HK.out, Bool.false_eq_true, ↓reduceIte]
    go_enter Try.func14, Try.ntmps14
    go_wp2_with fail
    go_ret2
    exact ⟨rfl, Upd.refl _ _⟩
  by_cases t3 : s < 1
  · have HK : Hid (newOk t s = false) := by show _ = _; simp [newOk, inWord]; omega
    simp only [HK.out, Bool.false_eq_true, ↓reduceIte]
    go_enter Try.func14, Try.ntmps14
    go_wp2_with fail
    go_ret2
    exact ⟨rfl, Upd.refl _ _⟩
  by_cases t4 : 65535 < s
  · have HK : Hid (newOk t s = false) := by show _ = _; simp [newOk, inWord]; omega
    simp only [HK.out, Bool.false_eq_true, ↓reduceIte]
    go_enter Try.func14, Try.ntmps14
    go_wp2_with fail
    go_ret2
    exact ⟨rfl, Upd.refl _ _⟩
  · have HK : Hid (newOk t s = true) := by show _ = _; simp [newOk, inWord]; omega
    simp only [HK.out, ↓reduceIte]
    go_enter Try.func14, Try.ntmps14
    go_wp2_with fail
    go_ret2
    exact ⟨rfl, Blk.new _ _ _, (Upd.refl _ _).alloc _⟩

set_option maxHeartbeats 2000000 in
theorem rPut_any (b : Nat) (x : Wy) (d : ByteArray) (w : World) (h : RwAt w b x) (hx : x.ok) (hd : d.size ≤ maxLen) (hp : x.put ≤ 1000) :
    Calls Try.prog 16 #[.pointer (some ⟨b, 0, none⟩), .string d] w fun e w' => e = .returned (.tuple #[.string (x.lay d).2.1, .int .i64 (x.lay d).2.2]) ∧ RwAt w' b (x.lay d).1 ∧ Upd [b] w w' := by
  have ht : x.tunnel ≠ 0 := by have := hx.tunnel; omega
  have HX := Lib.hid hx
  have H := Lib.hid h
  have hlt := Blk.lt h
  have HD := Lib.hid hd
  obtain ⟨g0, g1, g2, g3, g4, g5⟩ := h.cells
  clear hd hx h
  cases hq : x.seq with
  | true =>
    have HQ := Lib.hid hq
    rw [hq] at g2
    have hagg : ∀ W, Calls Try.prog 37 #[.agg #[.int .i64 x.tunnel, .int .i64 x.session, .bool true, .int .i64 x.next, .int .i64 0, .string d]] W fun e w' => e = .returned (.tuple #[.string (x.lay d).2.1, .int .i64 (x.lay d).2.2]) ∧ Upd [] W w' := by
      have hl : (x.load d).agg = .agg #[.int .i64 x.tunnel, .int .i64 x.session, .bool true, .int .i64 x.next, .int .i64 0, .string d] := by simp [Wy.load, Ld.agg, hq]
      rw [← hl]
      exact rputLoad_way x d HX.out HD.out
    clear hq
    by_cases t1 : 1460 < d.size
    · have e1 : x.lay d = (x, ⟨#[]⟩, 2) := if_pos t1
      rw [e1] at hagg ⊢
      have HAGG := Lib.hid hagg
      clear hagg e1
      go_enter Try.func16, Try.ntmps16
      go_wp2_with fail
      go_region
      go_wp2_with fail
      refine (HAGG.out _).mono ?_
      rintro e w2 ⟨rfl, hu2⟩
      have HU2 : Hid (Upd [] w w2) := (((Upd.refl [] w).alloc _).drewN 1).trans hu2
      clear hu2
      clear g0 g1 g2 g3 g4 g5
      go_wp2_with fail
      go_ret2
      exact ⟨rfl, Blk.upd H.out HU2.out (by simp), HU2.out.more⟩
    · have e1 : x.lay d = ({ x with next := (x.next + 1) % 65536, put := up1 x.put }, (x.load d).bytes, 0) := if_neg t1
      rw [e1] at hagg ⊢
      generalize (x.load d).bytes = bs at *
      have HAGG := Lib.hid hagg
      clear hagg e1
      go_enter Try.func16, Try.ntmps16
      go_wp2_with fail
      go_region
      go_wp2_with fail
      refine (HAGG.out _).mono ?_
      rintro e w2 ⟨rfl, hu2⟩
      have HU2 : Hid (Upd [] w w2) := (((Upd.refl [] w).alloc _).drewN 1).trans hu2
      clear hu2
      have HB2 : Hid (RwAt w2 b x) := Blk.upd H.out HU2.out (by simp)
      obtain ⟨g0, g1, g2, g3, g4, g5⟩ := HB2.out.cells
      have hf := Blk.frozen HB2.out 3
      have hw1 : True → wrap64 (x.next + 1) = x.next + 1 := fun _ => IntWalk.wrap64_in _ (by have := HX.out.next; omega)
      have htm : (x.next + 1).tmod 65536 = (x.next + 1) % 65536 := Int.tmod_eq_emod_of_nonneg (by have := HX.out.next; omega)
      have hw2 : True → wrap64 (x.put + 1) = up1 x.put := fun _ => by rw [IntWalk.wrap64_in _ (by have := HX.out.put; omega)]; unfold up1; have := HX.out.put; omega
      have g6 := Blk.cell HB2.out 6
      have hf6 := Blk.frozen HB2.out 6
      simp [Wy.rcells] at g6
      go_wp2_with fail
      go_ret2
      exact ⟨rfl, Blk.set_ 6 _ (Blk.set_ 3 _ HB2.out), ((HU2.out.more).setCell _ (by simp)).setCell _ (by simp)⟩
  | false =>
    have HQ := Lib.hid hq
    rw [hq] at g2
    have hagg : ∀ W, Calls Try.prog 37 #[.agg #[.int .i64 x.tunnel, .int .i64 x.session, .bool false, .int .i64 0, .int .i64 0, .string d]] W fun e w' => e = .returned (.tuple #[.string (x.lay d).2.1, .int .i64 (x.lay d).2.2]) ∧ Upd [] W w' := by
      have hl : (x.load d).agg = .agg #[.int .i64 x.tunnel, .int .i64 x.session, .bool false, .int .i64 0, .int .i64 0, .string d] := by simp [Wy.load, Ld.agg, hq]
      rw [← hl]
      exact rputLoad_way x d HX.out HD.out
    clear hq
    by_cases t1 : 1460 < d.size
    · have e1 : x.lay d = (x, ⟨#[]⟩, 2) := if_pos t1
      rw [e1] at hagg ⊢
      have HAGG := Lib.hid hagg
      clear hagg e1
      go_enter Try.func16, Try.ntmps16
      go_wp2_with fail
      go_region
      go_wp2_with fail
      refine (HAGG.out _).mono ?_
      rintro e w2 ⟨rfl, hu2⟩
      have HU2 : Hid (Upd [] w w2) := (((Upd.refl [] w).alloc _).drewN 1).trans hu2
      clear hu2
      clear g0 g1 g2 g3 g4 g5
      go_wp2_with fail
      go_ret2
      exact ⟨rfl, Blk.upd H.out HU2.out (by simp), HU2.out.more⟩
    · have e1 : x.lay d = ({ x with next := (x.next + 1) % 65536, put := up1 x.put }, (x.load d).bytes, 0) := if_neg t1
      rw [e1] at hagg ⊢
      generalize (x.load d).bytes = bs at *
      have HAGG := Lib.hid hagg
      clear hagg e1
      go_enter Try.func16, Try.ntmps16
      go_wp2_with fail
      go_region
      go_wp2_with fail
      refine (HAGG.out _).mono ?_
      rintro e w2 ⟨rfl, hu2⟩
      have HU2 : Hid (Upd [] w w2) := (((Upd.refl [] w).alloc _).drewN 1).trans hu2
      clear hu2
      have HB2 : Hid (RwAt w2 b x) := Blk.upd H.out HU2.out (by simp)
      obtain ⟨g0, g1, g2, g3, g4, g5⟩ := HB2.out.cells
      have hf := Blk.frozen HB2.out 3
      have hw1 : True → wrap64 (x.next + 1) = x.next + 1 := fun _ => IntWalk.wrap64_in _ (by have := HX.out.next; omega)
      have htm : (x.next + 1).tmod 65536 = (x.next + 1) % 65536 := Int.tmod_eq_emod_of_nonneg (by have := HX.out.next; omega)
      have hw2 : True → wrap64 (x.put + 1) = up1 x.put := fun _ => by rw [IntWalk.wrap64_in _ (by have := HX.out.put; omega)]; unfold up1; have := HX.out.put; omega
      have g6 := Blk.cell HB2.out 6
      have hf6 := Blk.frozen HB2.out 6
      simp [Wy.rcells] at g6
      go_wp2_with fail
      go_ret2
      exact ⟨rfl, Blk.set_ 6 _ (Blk.set_ 3 _ HB2.out), ((HU2.out.more).setCell _ (by simp)).setCell _ (by simp)⟩
end Go.Proofs.Yteflpekokgdllaa
