/- The walk of the document's own Length (chapter 18). Printed by gen/rlen.py. -/
import Derived.Test.YtglafpdealjlnaaGreatQLen
import Derived.Test.YtglafpdealjlnaaGreatQLib
namespace Go.Proofs.YtglafpdealjlnaaGreat
open Go.RowKit
set_option linter.unusedSimpArgs false
set_option linter.unusedVariables false
set_option maxRecDepth 100000

theorem avpLen_none (kind : Int) (h0 : ¬ kind = 0) (h2 : ¬ kind = 2) (h9 : ¬ kind = 9) (h10 : ¬ kind = 10) (h14 : ¬ kind = 14) (h29 : ¬ kind = 29) (h32 : ¬ kind = 32) (h3 : ¬ kind = 3) (h15 : ¬ kind = 15) (h19 : ¬ kind = 19) (h24 : ¬ kind = 24) (h5 : ¬ kind = 5) (h13 : ¬ kind = 13) (h39 : ¬ kind = 39) (h1 : ¬ kind = 1) (h7 : ¬ kind = 7) (h11 : ¬ kind = 11) (h26 : ¬ kind = 26) (h27 : ¬ kind = 27) (h28 : ¬ kind = 28) (h30 : ¬ kind = 30) (h31 : ¬ kind = 31) (h33 : ¬ kind = 33) (h34 : ¬ kind = 34) (h35 : ¬ kind = 35) (h36 : ¬ kind = 36) : avpLen kind = -2 := by
  unfold avpLen
  simp [lenT, h0, h2, h9, h10, h14, h29, h32, h3, h15, h19, h24, h5, h13, h39, h1, h7, h11, h26, h27, h28, h30, h31, h33, h34, h35, h36]
set_option maxHeartbeats 4000000 in
theorem rlen18_any (kind : Int) (w : World) :
    Calls Tryz.prog 94 #[.int .i64 kind] w fun e w' => e = .returned (.int .i64 (avpLen kind)) ∧ Upd [] w w' := by
  by_cases h0 : kind = 0
  · subst h0
    go_enter Tryz.func94, Tryz.ntmps94
    go_wp2_with fail
    go_ret
    exact ⟨rfl, Upd.refl _ _⟩
  by_cases h2 : kind = 2
  · subst h2
    go_enter Tryz.func94, Tryz.ntmps94
    go_wp2_with fail
    go_ret
    exact ⟨rfl, Upd.refl _ _⟩
  by_cases h9 : kind = 9
  · subst h9
    go_enter Tryz.func94, Tryz.ntmps94
    go_wp2_with fail
    go_ret
    exact ⟨rfl, Upd.refl _ _⟩
  by_cases h10 : kind = 10
  · subst h10
    go_enter Tryz.func94, Tryz.ntmps94
    go_wp2_with fail
    go_ret
    exact ⟨rfl, Upd.refl _ _⟩
  by_cases h14 : kind = 14
  · subst h14
    go_enter Tryz.func94, Tryz.ntmps94
    go_wp2_with fail
    go_ret
    exact ⟨rfl, Upd.refl _ _⟩
  by_cases h29 : kind = 29
  · subst h29
    go_enter Tryz.func94, Tryz.ntmps94
    go_wp2_with fail
    go_ret
    exact ⟨rfl, Upd.refl _ _⟩
  by_cases h32 : kind = 32
  · subst h32
    go_enter Tryz.func94, Tryz.ntmps94
    go_wp2_with fail
    go_ret
    exact ⟨rfl, Upd.refl _ _⟩
  by_cases h3 : kind = 3
  · subst h3
    go_enter Tryz.func94, Tryz.ntmps94
    go_wp2_with fail
    go_ret
    exact ⟨rfl, Upd.refl _ _⟩
  by_cases h15 : kind = 15
  · subst h15
    go_enter Tryz.func94, Tryz.ntmps94
    go_wp2_with fail
    go_ret
    exact ⟨rfl, Upd.refl _ _⟩
  by_cases h19 : kind = 19
  · subst h19
    go_enter Tryz.func94, Tryz.ntmps94
    go_wp2_with fail
    go_ret
    exact ⟨rfl, Upd.refl _ _⟩
  by_cases h24 : kind = 24
  · subst h24
    go_enter Tryz.func94, Tryz.ntmps94
    go_wp2_with fail
    go_ret
    exact ⟨rfl, Upd.refl _ _⟩
  by_cases h5 : kind = 5
  · subst h5
    go_enter Tryz.func94, Tryz.ntmps94
    go_wp2_with fail
    go_ret
    exact ⟨rfl, Upd.refl _ _⟩
  by_cases h13 : kind = 13
  · subst h13
    go_enter Tryz.func94, Tryz.ntmps94
    go_wp2_with fail
    go_ret
    exact ⟨rfl, Upd.refl _ _⟩
  by_cases h39 : kind = 39
  · subst h39
    go_enter Tryz.func94, Tryz.ntmps94
    go_wp2_with fail
    go_ret
    exact ⟨rfl, Upd.refl _ _⟩
  by_cases h1 : kind = 1
  · subst h1
    go_enter Tryz.func94, Tryz.ntmps94
    go_wp2_with fail
    go_ret
    exact ⟨rfl, Upd.refl _ _⟩
  by_cases h7 : kind = 7
  · subst h7
    go_enter Tryz.func94, Tryz.ntmps94
    go_wp2_with fail
    go_ret
    exact ⟨rfl, Upd.refl _ _⟩
  by_cases h11 : kind = 11
  · subst h11
    go_enter Tryz.func94, Tryz.ntmps94
    go_wp2_with fail
    go_ret
    exact ⟨rfl, Upd.refl _ _⟩
  by_cases h26 : kind = 26
  · subst h26
    go_enter Tryz.func94, Tryz.ntmps94
    go_wp2_with fail
    go_ret
    exact ⟨rfl, Upd.refl _ _⟩
  by_cases h27 : kind = 27
  · subst h27
    go_enter Tryz.func94, Tryz.ntmps94
    go_wp2_with fail
    go_ret
    exact ⟨rfl, Upd.refl _ _⟩
  by_cases h28 : kind = 28
  · subst h28
    go_enter Tryz.func94, Tryz.ntmps94
    go_wp2_with fail
    go_ret
    exact ⟨rfl, Upd.refl _ _⟩
  by_cases h30 : kind = 30
  · subst h30
    go_enter Tryz.func94, Tryz.ntmps94
    go_wp2_with fail
    go_ret
    exact ⟨rfl, Upd.refl _ _⟩
  by_cases h31 : kind = 31
  · subst h31
    go_enter Tryz.func94, Tryz.ntmps94
    go_wp2_with fail
    go_ret
    exact ⟨rfl, Upd.refl _ _⟩
  by_cases h33 : kind = 33
  · subst h33
    go_enter Tryz.func94, Tryz.ntmps94
    go_wp2_with fail
    go_ret
    exact ⟨rfl, Upd.refl _ _⟩
  by_cases h34 : kind = 34
  · subst h34
    go_enter Tryz.func94, Tryz.ntmps94
    go_wp2_with fail
    go_ret
    exact ⟨rfl, Upd.refl _ _⟩
  by_cases h35 : kind = 35
  · subst h35
    go_enter Tryz.func94, Tryz.ntmps94
    go_wp2_with fail
    go_ret
    exact ⟨rfl, Upd.refl _ _⟩
  by_cases h36 : kind = 36
  · subst h36
    go_enter Tryz.func94, Tryz.ntmps94
    go_wp2_with fail
    go_ret
    exact ⟨rfl, Upd.refl _ _⟩
  rw [avpLen_none kind h0 h2 h9 h10 h14 h29 h32 h3 h15 h19 h24 h5 h13 h39 h1 h7 h11 h26 h27 h28 h30 h31 h33 h34 h35 h36]
  replace h0 : (kind == 0) = false := by simpa using h0
  replace h2 : (kind == 2) = false := by simpa using h2
  replace h9 : (kind == 9) = false := by simpa using h9
  replace h10 : (kind == 10) = false := by simpa using h10
  replace h14 : (kind == 14) = false := by simpa using h14
  replace h29 : (kind == 29) = false := by simpa using h29
  replace h32 : (kind == 32) = false := by simpa using h32
  replace h3 : (kind == 3) = false := by simpa using h3
  replace h15 : (kind == 15) = false := by simpa using h15
  replace h19 : (kind == 19) = false := by simpa using h19
  replace h24 : (kind == 24) = false := by simpa using h24
  replace h5 : (kind == 5) = false := by simpa using h5
  replace h13 : (kind == 13) = false := by simpa using h13
  replace h39 : (kind == 39) = false := by simpa using h39
  replace h1 : (kind == 1) = false := by simpa using h1
  replace h7 : (kind == 7) = false := by simpa using h7
  replace h11 : (kind == 11) = false := by simpa using h11
  replace h26 : (kind == 26) = false := by simpa using h26
  replace h27 : (kind == 27) = false := by simpa using h27
  replace h28 : (kind == 28) = false := by simpa using h28
  replace h30 : (kind == 30) = false := by simpa using h30
  replace h31 : (kind == 31) = false := by simpa using h31
  replace h33 : (kind == 33) = false := by simpa using h33
  replace h34 : (kind == 34) = false := by simpa using h34
  replace h35 : (kind == 35) = false := by simpa using h35
  replace h36 : (kind == 36) = false := by simpa using h36
  go_enter Tryz.func94, Tryz.ntmps94
  go_wp2_with fail
  go_ret
  exact ⟨rfl, Upd.refl _ _⟩
end Go.Proofs.YtglafpdealjlnaaGreat
