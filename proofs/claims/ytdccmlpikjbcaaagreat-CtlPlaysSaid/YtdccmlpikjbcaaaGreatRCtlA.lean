/- WRITTEN by wip/gen/rctla.py. The walks of the small methods of the document's channel. -/
import Derived.Test.YtdccmlpikjbcaaaGreatRCtlP
import Derived.Test.YtdccmlpikjbcaaaGreatCtlT
import Derived.Test.YtdccmlpikjbcaaaGreatCtlN
namespace Go.Proofs.YtdccmlpikjbcaaaGreat
open Go.RowKit
set_option linter.unusedSimpArgs false
set_option linter.unusedVariables false
set_option maxRecDepth 100000

def C.setW (c : C) (n : Int) : C := { c with window := n, mark := n, room := min c.room n }
theorem C.setW_ok {c : C} (h : c.ok) {n : Int} (h1 : 1 ≤ n) (h2 : n ≤ 64) : (c.setW n).ok := by
  obtain ⟨a1, a2, a3, a4, a5, a6, a7, a8, a9, a10, a11, a12, a13, a14, a15, a16, a17, a18, a19, a20, a21, a22, a23, a24, a25, a26⟩ := h
  constructor <;> simp only [C.setW] <;> first | assumption | omega
def C.win (c : C) (n : Int) : C × Int := if 1 ≤ n ∧ n ≤ 64 then (c.setW n, 0) else (c, 1)

set_option maxHeartbeats 400000 in
theorem rword_any (n : Int) (w : World) : Calls Tryz.prog 32 #[.int .i64 n] w fun e w' => e = .returned (.bool (in16 n)) ∧ w = w' := by
  go_enter Tryz.func32, Tryz.ntmps32
  go_wp2
  all_goals
    go_ret
    refine ⟨?_, rfl⟩
    simp_all [in16]
  all_goals omega
set_option maxHeartbeats 1000000 in
theorem rmod (n : Int) (w : World) : Calls Tryz.prog 35 #[.int .i64 n] w fun e w' => e = .returned (.int .i64 (n % 65536)) ∧ w = w' := by
  have h1 : n.tmod 65536 = n % 65536 ∨ n.tmod 65536 = n % 65536 - 65536 := by
    rcases Int.le_total 0 n with h | h
    · left; exact Int.tmod_eq_emod_of_nonneg h
    · have := Int.tmod_eq_emod (a := n) (b := 65536)
      rw [this]
      split
      · left; omega
      · right; omega
  have h2 : 0 ≤ n % 65536 ∧ n % 65536 < 65536 := by omega
  obtain ⟨y, hy⟩ : ∃ y, y = n % 65536 := ⟨_, rfl⟩
  rw [← hy] at h1 h2 ⊢
  obtain ⟨x, hx⟩ : ∃ x, n.tmod 65536 = x := ⟨_, rfl⟩
  rw [hx] at h1
  by_cases t : x < 0
  · have e1 : x = y - 65536 := by omega
    have hwx : True → wrap64 (x + 65536) = y := fun _ => by rw [IntWalk.wrap64_in _ (by omega)]; omega
    clear hy
    go_enter Tryz.func35, Tryz.ntmps35
    go_wp2_with fail
    go_ret
    exact ⟨by first | rfl | (rw [hwx trivial]) | (congr 2; omega), rfl⟩
  · have e1 : x = y := by omega
    subst e1
    clear hy
    go_enter Tryz.func35, Tryz.ntmps35
    go_wp2_with fail
    go_ret
    exact ⟨rfl, rfl⟩
set_option maxHeartbeats 1000000 in
theorem rbef (a b : Int) (ha : 0 ≤ a ∧ a < 65536) (hb : 0 ≤ b ∧ b < 65536) (w : World) : Calls Tryz.prog 33 #[.int .i64 a, .int .i64 b] w fun e w' => e = .returned (.bool (bef a b)) ∧ w = w' := by
  have e1 : a % 65536 = a := by omega
  have e2 : b % 65536 = b := by omega
  have hw : True → wrap64 (b - a) = b - a := fun _ => IntWalk.wrap64_in _ (by omega)
  have HB : Hid (bef a b = (decide (1 ≤ (b - a) % 65536) && decide ((b - a) % 65536 ≤ 32767))) := by
    show _ = _
    rw [bef]
    congr 1
    exact decide_eq_decide.2 (by omega)
  rw [HB.out]
  go_enter Tryz.func33, Tryz.ntmps33
  go_wp2_with fail
  refine (rmod b _).mono ?_
  rintro e w1 ⟨rfl, rfl⟩
  rw [e2]
  go_wp2_with fail
  refine (rmod a _).mono ?_
  rintro e w1 ⟨rfl, rfl⟩
  rw [e1]
  go_wp2_with fail
  refine (rmod (b - a) _).mono ?_
  rintro e w1 ⟨rfl, rfl⟩
  obtain ⟨z, hz⟩ : ∃ z, z = (b - a) % 65536 := ⟨_, rfl⟩
  rw [← hz]
  have HZ := Lib.hid hz
  clear hz e1 e2
  by_cases t : 1 ≤ z
  · go_wp2_with fail
    go_ret
    rw [← HZ.out]
    exact ⟨by simp [t], rfl⟩
  · go_wp2_with fail
    go_ret
    rw [← HZ.out]
    exact ⟨by simp; omega, rfl⟩

set_option maxHeartbeats 1000000 in
theorem rmore_any (b : Nat) (c : C) (vw vf : Value) (w : World) (b1 : 1 ≤ c.room) (b2 : c.room ≤ c.window) (b3 : 0 ≤ c.count) (b4 : c.count ≤ 64) (b5 : c.window ≤ 64) (b6 : c.mark ≤ 64) (hb : Blk w b 74 (c.rcells vw vf)) :
    Calls Tryz.prog 34 #[.pointer (some ⟨b, 0, none⟩)] w fun e w' => e = .returned (.tuple #[]) ∧ Blk w' b 74 (c.grow.rcells vw vf) ∧ Upd [b] w w' := by
  have hf := hb.frozen
  have h0 := hb.cell 0
  have h8 := hb.cell 8
  have h9 := hb.cell 9
  have h10 := hb.cell 10
  simp [C.rcells] at h0 h8 h9 h10
  have HB := Lib.hid hb
  clear hb
  by_cases t0 : c.window < c.room + 1
  all_goals by_cases t1 : c.room < c.mark
  any_goals by_cases t2 : c.room ≤ c.count + 1
  all_goals
    go_enter Tryz.func34, Tryz.ntmps34
    go_wp2
  all_goals ((first | go_quiet (fail) | go_region | skip); go_wp2)
  all_goals ((first | go_quiet (fail) | go_region | skip); go_wp2)
  all_goals ((first | go_quiet (fail) | go_region | skip); go_wp2)
  all_goals
    (first | go_end0 | refine bodyPost_ret (results_none rfl _ _ _) rfl ?_)
    refine ⟨rfl, Blk.of_eq (by repeat (with_reducible first | exact HB.out | apply Blk.drewN | apply Blk.drew | apply Blk.set_)) ?_,
      by repeat (with_reducible first | apply Upd.refl | apply Upd.drewN | apply Upd.drew | (refine Upd.setCell _ ?_ (by simp)))⟩
    simp only [C.grow]
    (repeat' split) <;> first | omega | (simp [C.rcells]; done) | (simp [C.rcells]; omega)

set_option maxHeartbeats 1000000 in
theorem rwin_any (b : Nat) (c : C) (vw vf : Value) (n : Int) (w : World) (hb : Blk w b 74 (c.rcells vw vf)) :
    Calls Tryz.prog 17 #[.pointer (some ⟨b, 0, none⟩), .int .i64 n] w fun e w' => e = .returned (.int .i64 (c.win n).2) ∧ Blk w' b 74 ((c.win n).1.rcells vw vf) ∧ Upd [b] w w' := by
  have hf := hb.frozen
  have h0 := hb.cell 0
  have h8 := hb.cell 8
  have h9 := hb.cell 9
  simp [C.rcells] at h0 h8 h9
  have HB := Lib.hid hb
  clear hb
  by_cases t : 1 ≤ n ∧ n ≤ 64
  · have HC := Lib.hid (show c.win n = (c.setW n, 0) from if_pos t)
    obtain ⟨t1, t2⟩ := t
    by_cases t3 : n < c.room
    · have HM : Hid (min c.room n = n) := Int.min_eq_right (by omega)
      go_enter Tryz.func17, Tryz.ntmps17
      go_wp2
      go_ret
      rw [HC.out]
      refine ⟨rfl, Blk.of_eq (by repeat (with_reducible first | exact HB.out | apply Blk.drewN | apply Blk.drew | apply Blk.set_)) ?_,
        by repeat (with_reducible first | apply Upd.refl | apply Upd.drewN | apply Upd.drew | (refine Upd.setCell _ ?_ (by simp)))⟩
      simp [C.rcells, C.setW, HM.out]
    · have HM : Hid (min c.room n = c.room) := Int.min_eq_left (by omega)
      go_enter Tryz.func17, Tryz.ntmps17
      go_wp2
      go_ret
      rw [HC.out]
      refine ⟨rfl, Blk.of_eq (by repeat (with_reducible first | exact HB.out | apply Blk.drewN | apply Blk.drew | apply Blk.set_)) ?_,
        by repeat (with_reducible first | apply Upd.refl | apply Upd.drewN | apply Upd.drew | (refine Upd.setCell _ ?_ (by simp)))⟩
      simp [C.rcells, C.setW, HM.out]
  · have HC := Lib.hid (show c.win n = (c, 1) from if_neg t)
    have t2 : n < 1 ∨ 64 < n := by omega
    clear t
    rcases t2 with t | t
    all_goals
      go_enter Tryz.func17, Tryz.ntmps17
      go_wp2
      go_ret
      rw [HC.out]
      exact ⟨rfl, HB.out, Upd.refl _ _⟩

set_option maxHeartbeats 1000000 in
theorem rnew_ok (window queue retry wait first : Int) (h : NewOk window queue retry wait first) (w : World) :
    Calls Tryz.prog 6 #[.int .i64 window, .int .i64 queue, .int .i64 retry, .int .i64 wait, .int .i64 first] w fun e w' =>
      e = .returned (.tuple #[.pointer (some ⟨w.heap.size, 0, none⟩), .int .i64 0]) ∧ w' = w.alloc (.cells ((C.new window queue retry wait first).rcells (.slice none 0 0) (.slice none 0 0)) 74) := by
  obtain ⟨h1, h2, h3, h4, h5, h6, h7, h8, h9, h10⟩ := h
  go_enter Tryz.func6, Tryz.ntmps6
  go_wp2
  go_ret2
  refine ⟨rfl, ?_⟩
  simp [C.rcells, C.new]

set_option maxHeartbeats 2000000 in
theorem rnew_bad (window queue retry wait first : Int) (h : ¬ NewOk window queue retry wait first) (w : World) :
    Calls Tryz.prog 6 #[.int .i64 window, .int .i64 queue, .int .i64 retry, .int .i64 wait, .int .i64 first] w fun e w' =>
      e = .returned (.tuple #[.pointer none, .int .i64 1]) ∧ w = w' := by
  have H := Lib.hid h
  clear h
  go_enter Tryz.func6, Tryz.ntmps6
  go_wp2_with fail
  all_goals go_ret2
  all_goals first
    | exact ⟨rfl, rfl⟩
    | (exfalso
       refine H.out ?_
       constructor <;> omega)
end Go.Proofs.YtdccmlpikjbcaaaGreat
