/- The walk of chapter 18's alive. -/
import Derived.Test.YtfbdbebahpemhaaGreatQAvpP
import Derived.Test.YtfbdbebahpemhaaGreatQAvpH
import Derived.Test.YtfbdbebahpemhaaGreatQLen
namespace Go.Proofs.YtfbdbebahpemhaaGreat
open Go.RowKit
set_option linter.unusedSimpArgs false
set_option linter.unusedVariables false
set_option maxRecDepth 100000

theorem al_1 : putA [⟨true, false, 0, 0, ⟨#[0, 1]⟩⟩] ⟨#[]⟩ = (⟨#[128, 8, 0, 0, 0, 0, 0, 1]⟩, 0) := by decide +kernel
theorem al_2 : putA [⟨false, true, 0, 0, ⟨#[]⟩⟩] ⟨#[115]⟩ = (⟨#[]⟩, 40) := by decide +kernel
theorem al_3 : getA ⟨#[128, 5, 0, 0, 0, 0]⟩ ⟨#[]⟩ = ([], 4) := by decide +kernel
theorem al_4 : (numAv 5 258 2).val = ⟨#[1, 2]⟩ := by decide +kernel

theorem fld4 (a b c d e : Value) (W : World) : (Instr.field 59 (.agg #[a, b, c, d, e]) 4).run Tryz.prog W = .ok e W := by rfl
set_option maxHeartbeats 4000000 in
theorem alive18_any (w : World) : Calls Tryz.prog 5 #[] w fun e w' => e = .returned (.bool true) ∧ Upd [] w w' := by
  have H1 : Hid (∀ W : World, Calls Tryz.prog 7 #[.slice (some ⟨W.heap.size, 0, none⟩) 1 1, .string ⟨#[]⟩] (W.alloc (Obj.cells #[.bool true, .bool false, .int .i64 0, .int .i64 0, .string ⟨#[0, 1]⟩] 59)) fun e w' => e = .returned (.tuple #[.string ⟨#[128, 8, 0, 0, 0, 0, 0, 1]⟩, .int .i64 0]) ∧ Upd [] (W.alloc (Obj.cells #[.bool true, .bool false, .int .i64 0, .int .i64 0, .string ⟨#[0, 1]⟩] 59)) w') := fun W => by
    have h := avpPut_any [⟨true, false, 0, 0, ⟨#[0, 1]⟩⟩] _ ⟨#[]⟩ _ (AvsAt.of_blk (l := [⟨true, false, 0, 0, ⟨#[0, 1]⟩⟩]) (Blk.new W 59 _) (by simp [maxLen])) (by decide)
    rw [al_1] at h
    exact h
  have H2 : Hid (∀ W : World, Calls Tryz.prog 7 #[.slice (some ⟨W.heap.size, 0, none⟩) 1 1, .string ⟨#[115]⟩] (W.alloc (Obj.cells #[.bool false, .bool true, .int .i64 0, .int .i64 0, .string ⟨#[]⟩] 59)) fun e w' => e = .returned (.tuple #[.string ⟨#[]⟩, .int .i64 40]) ∧ Upd [] (W.alloc (Obj.cells #[.bool false, .bool true, .int .i64 0, .int .i64 0, .string ⟨#[]⟩] 59)) w') := fun W => by
    have h := avpPut_any [⟨false, true, 0, 0, ⟨#[]⟩⟩] _ ⟨#[115]⟩ _ (AvsAt.of_blk (l := [⟨false, true, 0, 0, ⟨#[]⟩⟩]) (Blk.new W 59 _) (by simp [maxLen])) (by decide)
    rw [al_2] at h
    exact h
  have H3 : Hid (∀ W : World, Calls Tryz.prog 9 #[.string ⟨#[128, 5, 0, 0, 0, 0]⟩, .string ⟨#[]⟩] W fun e w' => ∃ v own, e = .returned (.tuple #[v, .int .i64 4]) ∧ Own w' 59 5 v 0 [] own ∧ (∀ k ∈ own, W.heap.size ≤ k) ∧ Upd [] W w') := fun W => by
    have h := avpGet_any ⟨#[128, 5, 0, 0, 0, 0]⟩ ⟨#[]⟩ W (by decide) (by decide)
    rw [al_3] at h
    exact h
  have H4 := Lib.hid (length_any 5)
  have H5 : Hid (∀ W : World, Calls Tryz.prog 21 #[.int .i64 5, .int .i64 258, .int .i64 2] W fun e w' => e = .returned (.agg #[.bool true, .bool false, .int .i64 0, .int .i64 5, .string ⟨#[1, 2]⟩]) ∧ Upd [] W w') := fun W => by
    have h := num_ok 5 258 2 (by omega) W
    have e : (numAv 5 258 2).agg = .agg #[.bool true, .bool false, .int .i64 0, .int .i64 5, .string ⟨#[1, 2]⟩] := by rw [← al_4]; rfl
    rw [e] at h
    exact h
  go_enter Tryz.func5, Tryz.ntmps5
  go_wp2_with fail
  refine (H1.out _).mono ?_
  rintro e w1 ⟨rfl, hu1⟩
  have HU1 := Lib.hid (((Upd.refl [] w).alloc _).trans hu1)
  clear hu1
  go_wp2_with fail
  refine (H2.out _).mono ?_
  rintro e w2 ⟨rfl, hu2⟩
  have HU2 := Lib.hid ((HU1.out.alloc _).trans hu2)
  clear hu2
  go_wp2_with fail
  refine (H3.out _).mono ?_
  rintro e w3 ⟨v3, own3, rfl, -, -, hu3⟩
  have HU3 := Lib.hid (HU2.out.trans hu3)
  clear hu3
  go_wp2_with fail
  refine (H4.out _).mono ?_
  rintro e w4 ⟨rfl, hu4⟩
  have HU4 := Lib.hid (HU3.out.trans hu4)
  clear hu4
  go_wp2_with fail
  refine (H5.out _).mono ?_
  rintro e w5 ⟨rfl, hu5⟩
  have HU5 := Lib.hid (HU4.out.trans hu5)
  clear hu5
  have hfl := fld4 (.bool true) (.bool false) (.int .i64 0) (.int .i64 5) (.string ⟨#[1, 2]⟩) w5
  go_wp2_with fail
  go_ret
  exact ⟨rfl, HU5.out⟩
end Go.Proofs.YtfbdbebahpemhaaGreat
