/- The walks of the channel's small methods. -/
import Derived.Test.YtdccmlpikjbcaaaGreatRows
import Derived.Test.YtdccmlpikjbcaaaGreatCtlP
namespace Go.Proofs.YtdccmlpikjbcaaaGreat
open Go.RowKit
set_option maxRecDepth 100000

theorem wrap_u16_sub (a b : Int) : IntKind.u16.wrap (IntKind.u16.wrap b - IntKind.u16.wrap a) = (b - a) % 65536 := by
  simp [IntKind.wrap, IntKind.bits, IntKind.signed]
theorem wrap_u16_one (a b : Int) : IntKind.u16.wrap (a - IntKind.u16.wrap b) = (a - b) % 65536 := by
  simp [IntKind.wrap, IntKind.bits, IntKind.signed]
theorem wrap_u16 (a : Int) : IntKind.u16.wrap a = a % 65536 := by
  simp [IntKind.wrap, IntKind.bits, IntKind.signed]

set_option maxHeartbeats 400000 in
theorem before_any (a b : Int) (w : World) :
    Calls Tryz.prog 27 #[.int .i64 a, .int .i64 b] w fun e w' => e = .returned (.bool (bef a b)) ∧ w = w' := by
  go_enter Tryz.func27, Tryz.ntmps27
  go_wp2
  all_goals
    go_ret
    refine ⟨?_, rfl⟩
    simp_all [bef, wrap_u16_sub]
  all_goals omega

set_option maxHeartbeats 400000 in
theorem dead_any (b : Nat) (c : C) (vw vf : Value) (w : World) (hb : Blk w b 81 (c.cells vw vf)) :
    Calls Tryz.prog 22 #[.pointer (some ⟨b, 0, none⟩)] w fun e w' => e = .returned (.bool (!c.made || c.dead)) ∧ w = w' := by
  have h15 := hb.cell 15
  have h16 := hb.cell 16
  simp [C.cells] at h15 h16
  clear hb
  go_enter Tryz.func22, Tryz.ntmps22
  go_wp2
  all_goals
    go_ret
    refine ⟨?_, rfl⟩
    simp_all

set_option maxHeartbeats 400000 in
theorem dead_nil (w : World) :
    Calls Tryz.prog 22 #[.pointer none] w fun e w' => e = .returned (.bool true) ∧ w = w' := by
  go_enter Tryz.func22, Tryz.ntmps22
  go_wp2
  all_goals
    go_ret
    exact ⟨rfl, rfl⟩

set_option maxHeartbeats 400000 in
theorem first_any (b : Nat) (c : C) (vw : Value) (ao : Option Addr) (n cap : Nat) (w : World) (hn : n = c.flies.length) (hl : n ≤ 1000)
    (hb : Blk w b 81 (c.cells vw (.slice ao n cap))) :
    Calls Tryz.prog 38 #[.pointer (some ⟨b, 0, none⟩)] w fun e w' => e = .returned (.int .u16 c.first) ∧ ∃ k, w' = w.drewN k := by
  have h4 := hb.cell 4
  have h7 := hb.cell 7
  simp [C.cells] at h4 h7
  have H := Lib.hid hn
  clear hb hn
  go_enter Tryz.func38, Tryz.ntmps38
  go_wp2
  go_quiet (fail)
  go_wp2
  go_ret
  refine ⟨?_, _, rfl⟩
  simp [wrap_u16, C.first, H.out]

set_option maxHeartbeats 400000 in
theorem grow_any (b : Nat) (c : C) (vw vf : Value) (w : World) (hk : c.ok) (hb : Blk w b 81 (c.cells vw vf)) :
    Calls Tryz.prog 113 #[.pointer (some ⟨b, 0, none⟩)] w fun e w' => e = .returned (.tuple #[]) ∧ Blk w' b 81 (c.grow.cells vw vf) ∧ Upd [b] w w' := by
  have hf := hb.frozen
  have h0 := hb.cell 0
  have h8 := hb.cell 8
  have h9 := hb.cell 9
  have h10 := hb.cell 10
  simp [C.cells] at h0 h8 h9 h10
  have HB := Lib.hid hb
  have b1 := hk.r1
  have b2 := hk.r2
  have b3 := hk.n1
  have b4 := hk.n2
  have b5 := hk.w2
  clear hb hk
  by_cases t0 : c.window < c.room + 1
  all_goals by_cases t1 : c.room < c.mark
  any_goals by_cases t2 : c.room ≤ c.count + 1
  all_goals
    go_enter Tryz.func113, Tryz.ntmps113
    go_wp2
  all_goals ((first | go_quiet (fail) | go_region | skip); go_wp2)
  all_goals ((first | go_quiet (fail) | go_region | skip); go_wp2)
  all_goals ((first | go_quiet (fail) | go_region | skip); go_wp2)
  all_goals
    (first | go_end0 | refine bodyPost_ret (results_none rfl _ _ _) rfl ?_)
    refine ⟨rfl, Blk.of_eq (by repeat (with_reducible first | exact HB.out | apply Blk.drewN | apply Blk.drew | apply Blk.set_)) ?_,
      by repeat (with_reducible first | apply Upd.refl | apply Upd.drewN | apply Upd.drew | (refine Upd.setCell _ ?_ (by simp)))⟩
    simp only [C.grow]
    (repeat' split) <;> first | omega | (simp [C.cells]; done) | (simp [C.cells]; omega)
end Go.Proofs.YtdccmlpikjbcaaaGreat
