/- The walk of CtlNone: what a nil and a zero channel answer. -/
import Derived.Test.YtclodmcdimaccaaCtlV
namespace Go.Proofs.Ytclodmcdimaccaa
open Go.RowKit

/-- It answers Dead with true, now and behind whatever is made. -/
def Gone (pv : Value) (w : World) : Prop := ∀ W, Upd [] w W → Calls Try.prog 14 #[pv] W fun e w' => e = .returned (.bool true) ∧ W = w'
theorem Gone.keep {pv : Value} {w w' : World} (h : Gone pv w) (hu : Upd [] w w') : Gone pv w' := fun W hW => h W (hu.trans hW)
theorem Gone.dead {pv : Value} {w W : World} (h : Gone pv w) (hu : Upd [] w W) : Calls Try.prog 14 #[pv] W fun e w' => e = .returned (.bool true) ∧ W = w' := h W hu
theorem gone_nil (w : World) : Gone (.pointer none) w := fun W _ => dead_nil W
theorem gone_zero {b : Nat} {c : C} {vw vf : Value} {w : World} (hb : Blk w b 56 (c.cells vw vf)) (hm : c.made = false) : Gone (.pointer (some ⟨b, 0, none⟩)) w := fun W hW => by
  refine (dead_any b c vw vf W (hb.upd hW (by simp))).mono ?_
  rintro e w' ⟨rfl, rfl⟩
  exact ⟨by rw [hm]; rfl, rfl⟩

set_option maxHeartbeats 400000 in
theorem tick_gone (pv : Value) (w : World) (h : Gone pv w) : Calls Try.prog 15 #[pv] w fun e w' => e = .returned (.tuple #[]) ∧ Upd [] w w' := by
  have H := Lib.hid h
  clear h
  go_enter Try.func15, Try.ntmps15
  go_wp2_with (go_at_call 14; refine (H.out _ (Upd.refl _ _)).mono ?_; rintro e w' ⟨rfl, rfl⟩)
  refine bodyPost_ret (results_none rfl _ _ _) rfl ⟨rfl, Upd.refl _ _⟩
set_option maxHeartbeats 400000 in
theorem send_gone (pv : Value) (s : ByteArray) (w : World) (h : Gone pv w) : Calls Try.prog 13 #[pv, .string s] w fun e w' => e = .returned (.int .i64 20) ∧ Upd [] w w' := by
  have H := Lib.hid h
  clear h
  go_enter Try.func13, Try.ntmps13
  go_wp2_with (go_at_call 14; refine (H.out _ (Upd.refl _ _)).mono ?_; rintro e w' ⟨rfl, rfl⟩)
  go_ret
  exact ⟨rfl, Upd.refl _ _⟩
set_option maxHeartbeats 400000 in
theorem take_gone (pv : Value) (a b : Int) (s : ByteArray) (w : World) (h : Gone pv w) : Calls Try.prog 11 #[pv, .agg #[.int .i64 a, .int .i64 b, .string s]] w fun e w' => e = .returned (.slice none 0 0) ∧ Upd [] w w' := by
  have H := Lib.hid h
  clear h
  go_enter Try.func11, Try.ntmps11
  go_wp2_with (go_at_call 14; refine (H.out _ ((Upd.refl _ _).alloc _)).mono ?_; rintro e w' ⟨rfl, rfl⟩)
  go_ret
  exact ⟨rfl, (Upd.refl _ _).alloc _⟩
set_option maxHeartbeats 400000 in
theorem out_gone (a : Option Addr) (w : World) (h : Gone (.pointer a) w) : Calls Try.prog 12 #[.pointer a] w fun e w' => e = .returned (.slice none 0 0) ∧ Upd [] w w' := by
  have H := Lib.hid h
  clear h
  go_enter Try.func12, Try.ntmps12
  go_wp2_with (go_at_call 14; refine (H.out _ ((Upd.refl _ _).alloc _)).mono ?_; rintro e w' ⟨rfl, rfl⟩)
  go_ret
  exact ⟨rfl, (Upd.refl _ _).alloc _⟩

def C.zero : C := ⟨0, 0, 0, 0, 0, 0, [], [], 0, 0, 0, 0, 0, false, false, false, false⟩

set_option maxRecDepth 100000 in
set_option maxHeartbeats 4000000 in
theorem ctlNone_run (a b : Int) (s : ByteArray) (w : World) :
    Calls Try.prog 8 #[.agg #[.int .i64 a, .int .i64 b, .string s]] w fun e w' => e = .returned (.bool true) ∧ Upd [] w w' := by
  by_cases t1 : 2000 < s.size
  · go_enter Try.func8, Try.ntmps8
    go_wp2_with fail
    refine (alive_any _).mono ?_
    rintro e w' ⟨rfl, hu⟩
    go_wp2
    go_ret
    exact ⟨rfl, ((Upd.refl _ _).alloc _).trans hu⟩
  go_enter Try.func8, Try.ntmps8
  go_wp2_with fail
  refine (tick_gone _ _ (gone_nil _)).mono ?_
  rintro e w1 ⟨rfl, u1⟩
  have hz0 : Blk ((w.alloc (.cells #[.int .i64 a, .int .i64 b, .string s] 30)).alloc (.cells (C.zero.cells (.slice none 0 0) (.slice none 0 0)) 56)) (w.heap.size + 1) 56 (C.zero.cells (.slice none 0 0) (.slice none 0 0)) := by
    have := Blk.new (w.alloc (.cells #[.int .i64 a, .int .i64 b, .string s] 30)) 56 (C.zero.cells (.slice none 0 0) (.slice none 0 0))
    simp only [World.size_alloc] at this
    exact this
  have hz := hz0.upd u1 (by simp)
  have hi := ((Blk.new w 30 #[.int .i64 a, .int .i64 b, .string s]).alloc (.cells (C.zero.cells (.slice none 0 0) (.slice none 0 0)) 56)).upd u1 (by simp)
  have v1 : Upd [] w w1 := (((Upd.refl _ _).alloc _).alloc _).trans u1
  clear u1 hz0
  have HZ := Lib.hid hz
  have HI := Lib.hid hi
  have GZ := Lib.hid (gone_zero hz rfl)
  clear hz hi
  go_wp2_with fail
  refine (tick_gone _ _ GZ.out).mono ?_
  rintro e w2 ⟨rfl, u2⟩
  go_wp2_with fail
  refine (next_nil _).mono ?_
  rintro e w' ⟨rfl, rfl⟩
  go_wp2_with fail
  refine (next_any _ C.zero _ _ _ (by simp [C.zero]) (by simp [C.zero]) (HZ.out.upd u2 (by simp))).mono ?_
  rintro e w3 ⟨rfl, u3⟩
  have v3 := u2.trans u3
  have hz := HZ.out.upd v3 (by simp)
  have hi := HI.out.upd v3 (by simp)
  have i0 := hi.cell 0
  have i1 := hi.cell 1
  have i2 := hi.cell 2
  simp at i0 i1 i2
  have GZ3 := Lib.hid (GZ.out.keep v3)
  have HZ3 := Lib.hid hz
  have V := Lib.hid (v1.trans v3)
  have lz := hz.lt
  have li := hi.lt
  clear u2 u3 v1 v3 hz hi HZ HI GZ
  have zs : C.zero.sent = 0 := rfl
  have zc : C.zero.came = 0 := rfl
  have zr : C.zero.room = 0 := rfl
  go_wp2
  go_region_held3 (fun W => Upd [] w3 W ∧ W.cell? ⟨w.heap.size, 0, none⟩ = some (.int .i64 a) ∧ W.cell? ⟨w.heap.size, 1, none⟩ = some (.int .i64 b) ∧ W.cell? ⟨w.heap.size, 2, none⟩ = some (.string s))
    (first | exact ⟨‹_›, ‹_›, ‹_›, ‹_›⟩ | exact ⟨(Upd.refl _ _).drew, i0, i1, i2⟩ | assumption)
    (first
      | (go_at_call 10; refine (alive_any _).mono ?_; rintro e w' ⟨rfl, hu⟩; have hU : Upd [] w3 w' := Upd.trans (F := []) (a := w3) (by first | assumption | exact (‹_ ∧ _›).1) hu; have j0 := (hU.cell (p := ⟨w.heap.size, 0, none⟩) li (by simp)).trans i0; have j1 := (hU.cell (p := ⟨w.heap.size, 1, none⟩) li (by simp)).trans i1; have j2 := (hU.cell (p := ⟨w.heap.size, 2, none⟩) li (by simp)).trans i2)
      | (go_at_call 14; (with_reducible refine (dead_nil _).mono ?_); rintro e w' ⟨rfl, rfl⟩)
      | (go_at_call 13; (with_reducible refine (send_gone _ _ _ (gone_nil _)).mono ?_); rintro e w' ⟨rfl, hu⟩; have hU : Upd [] w3 w' := Upd.trans (F := []) (a := w3) (by first | assumption | exact (‹_ ∧ _›).1) hu; have j0 := (hU.cell (p := ⟨w.heap.size, 0, none⟩) li (by simp)).trans i0; have j1 := (hU.cell (p := ⟨w.heap.size, 1, none⟩) li (by simp)).trans i1; have j2 := (hU.cell (p := ⟨w.heap.size, 2, none⟩) li (by simp)).trans i2)
      | (go_at_call 13; (with_reducible refine (send_gone _ _ _ (GZ3.out.keep (by first | assumption | exact (‹_ ∧ _›).1))).mono ?_); rintro e w' ⟨rfl, hu⟩; have hU : Upd [] w3 w' := Upd.trans (F := []) (a := w3) (by first | assumption | exact (‹_ ∧ _›).1) hu; have j0 := (hU.cell (p := ⟨w.heap.size, 0, none⟩) li (by simp)).trans i0; have j1 := (hU.cell (p := ⟨w.heap.size, 1, none⟩) li (by simp)).trans i1; have j2 := (hU.cell (p := ⟨w.heap.size, 2, none⟩) li (by simp)).trans i2)
      | (go_at_call 11; (with_reducible refine (take_gone _ _ _ _ _ (gone_nil _)).mono ?_); rintro e w' ⟨rfl, hu⟩; have hU : Upd [] w3 w' := Upd.trans (F := []) (a := w3) (by first | assumption | exact (‹_ ∧ _›).1) hu; have j0 := (hU.cell (p := ⟨w.heap.size, 0, none⟩) li (by simp)).trans i0; have j1 := (hU.cell (p := ⟨w.heap.size, 1, none⟩) li (by simp)).trans i1; have j2 := (hU.cell (p := ⟨w.heap.size, 2, none⟩) li (by simp)).trans i2)
      | (go_at_call 11; (with_reducible refine (take_gone _ _ _ _ _ (GZ3.out.keep (by first | assumption | exact (‹_ ∧ _›).1))).mono ?_); rintro e w' ⟨rfl, hu⟩; have hU : Upd [] w3 w' := Upd.trans (F := []) (a := w3) (by first | assumption | exact (‹_ ∧ _›).1) hu; have j0 := (hU.cell (p := ⟨w.heap.size, 0, none⟩) li (by simp)).trans i0; have j1 := (hU.cell (p := ⟨w.heap.size, 1, none⟩) li (by simp)).trans i1; have j2 := (hU.cell (p := ⟨w.heap.size, 2, none⟩) li (by simp)).trans i2)
      | (go_at_call 12; (with_reducible refine (out_gone _ _ (gone_nil _)).mono ?_); rintro e w' ⟨rfl, hu⟩; have hU : Upd [] w3 w' := Upd.trans (F := []) (a := w3) (by first | assumption | exact (‹_ ∧ _›).1) hu; have j0 := (hU.cell (p := ⟨w.heap.size, 0, none⟩) li (by simp)).trans i0; have j1 := (hU.cell (p := ⟨w.heap.size, 1, none⟩) li (by simp)).trans i1; have j2 := (hU.cell (p := ⟨w.heap.size, 2, none⟩) li (by simp)).trans i2)
      | (go_at_call 12; (with_reducible refine (out_gone _ _ (GZ3.out.keep (by first | assumption | exact (‹_ ∧ _›).1))).mono ?_); rintro e w' ⟨rfl, hu⟩; have hU : Upd [] w3 w' := Upd.trans (F := []) (a := w3) (by first | assumption | exact (‹_ ∧ _›).1) hu; have j0 := (hU.cell (p := ⟨w.heap.size, 0, none⟩) li (by simp)).trans i0; have j1 := (hU.cell (p := ⟨w.heap.size, 1, none⟩) li (by simp)).trans i1; have j2 := (hU.cell (p := ⟨w.heap.size, 2, none⟩) li (by simp)).trans i2)
      | (go_at_call 20; refine (waiting_nil _).mono ?_; rintro e w' ⟨rfl, rfl⟩)
      | (go_at_call 17; refine (flying_any _ C.zero _ _ _ _ _ (HZ3.out.upd (by first | assumption | exact (‹_ ∧ _›).1) (by simp))).mono ?_; rintro e w' ⟨rfl, rfl⟩)
      | (go_at_call 19; (with_reducible refine (room_nil _).mono ?_); rintro e w' ⟨rfl, rfl⟩)
      | (go_at_call 19; (with_reducible refine (room_any _ C.zero _ _ _ (HZ3.out.upd (by first | assumption | exact (‹_ ∧ _›).1) (by simp))).mono ?_); rintro e w' ⟨rfl, rfl⟩)
      | (go_at_call 14; (with_reducible refine (Gone.dead GZ3.out (by first | assumption | exact (‹_ ∧ _›).1)).mono ?_); rintro e w' ⟨rfl, rfl⟩))
  all_goals
    go_wp2
    go_ret
    exact ⟨rfl, V.out.trans (by assumption)⟩
theorem ctlNone_walk (a b : Int) (s : ByteArray) (w : World) :
    Calls Try.prog 8 #[.agg #[.int .i64 a, .int .i64 b, .string s]] w fun e w' => e = .returned (.bool true) ∧ Below w.heap.size w w' :=
  (ctlNone_run a b s w).mono fun _ _ h => ⟨h.1, h.2.below⟩
end Go.Proofs.Ytclodmcdimaccaa
