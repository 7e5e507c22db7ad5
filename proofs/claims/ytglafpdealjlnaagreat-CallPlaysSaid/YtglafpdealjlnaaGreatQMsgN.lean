/- WRITTEN by wip/gen/msgn.py. The walks of msg.Needs and of the document's Needs, with who owns what they give. -/
import Derived.Test.YtglafpdealjlnaaGreatProg
import Derived.Test.YtglafpdealjlnaaGreatQMsgA
namespace Go.Proofs.YtglafpdealjlnaaGreat
open Go.RowKit
set_option linter.unusedSimpArgs false
set_option linter.unusedVariables false
set_option maxRecDepth 100000

/-- Fresh ints. -/
structure GivesInts (f : Value → Ending) (l : List Int) (w : World) (e : Ending) (w' : World) : Prop where
  ex : ∃ v own, e = f v ∧ Own w' 3 1 v l.length (l.map (Value.int .i64)) own ∧ (∀ k ∈ own, w.heap.size ≤ k) ∧ Upd [] w w'
theorem givesInts_new (f : Value → Ending) (l : List Int) (w : World) (hl : l.length ≤ maxLen) : GivesInts f l w (f (.slice (some ⟨w.heap.size, 0, none⟩) l.length l.length)) (w.alloc (.cells (l.map (Value.int .i64)).toArray 3)) :=
  ⟨_, [w.heap.size], rfl, Own.rows_new w 3 (by simp) hl, by simp, (Upd.refl _ _).alloc _⟩
theorem givesInts_nil (f : Value → Ending) (w : World) : GivesInts f [] w (f (.slice none 0 0)) w :=
  ⟨_, [], rfl, Own.nil _ _ _, by simp, Upd.refl _ _⟩
def knownF (b : Bool) (v : Value) : Ending := .returned (.tuple #[v, .bool b])
set_option maxHeartbeats 1000000 in
theorem knownO_1 (w : World) : Calls Tryz.prog 91 #[.int .i64 1] w (GivesInts (fun v => knownF true v) ((needsOf 1).getD []) w) := by
  go_enter Tryz.func91, Tryz.ntmps91
  go_wp2_with fail
  go_ret2
  exact givesInts_new _ [2, 3, 7, 9] w (by simp [maxLen])
set_option maxHeartbeats 1000000 in
theorem knownO_2 (w : World) : Calls Tryz.prog 91 #[.int .i64 2] w (GivesInts (fun v => knownF true v) ((needsOf 2).getD []) w) := by
  go_enter Tryz.func91, Tryz.ntmps91
  go_wp2_with fail
  go_ret2
  exact givesInts_new _ [2, 3, 7, 9] w (by simp [maxLen])
set_option maxHeartbeats 1000000 in
theorem knownO_4 (w : World) : Calls Tryz.prog 91 #[.int .i64 4] w (GivesInts (fun v => knownF true v) ((needsOf 4).getD []) w) := by
  go_enter Tryz.func91, Tryz.ntmps91
  go_wp2_with fail
  go_ret2
  exact givesInts_new _ [9, 1] w (by simp [maxLen])
set_option maxHeartbeats 1000000 in
theorem knownO_10 (w : World) : Calls Tryz.prog 91 #[.int .i64 10] w (GivesInts (fun v => knownF true v) ((needsOf 10).getD []) w) := by
  go_enter Tryz.func91, Tryz.ntmps91
  go_wp2_with fail
  go_ret2
  exact givesInts_new _ [14, 15] w (by simp [maxLen])
set_option maxHeartbeats 1000000 in
theorem knownO_7 (w : World) : Calls Tryz.prog 91 #[.int .i64 7] w (GivesInts (fun v => knownF true v) ((needsOf 7).getD []) w) := by
  go_enter Tryz.func91, Tryz.ntmps91
  go_wp2_with fail
  go_ret2
  exact givesInts_new _ [14, 15] w (by simp [maxLen])
set_option maxHeartbeats 1000000 in
theorem knownO_11 (w : World) : Calls Tryz.prog 91 #[.int .i64 11] w (GivesInts (fun v => knownF true v) ((needsOf 11).getD []) w) := by
  go_enter Tryz.func91, Tryz.ntmps91
  go_wp2_with fail
  go_ret2
  exact givesInts_new _ [14] w (by simp [maxLen])
set_option maxHeartbeats 1000000 in
theorem knownO_8 (w : World) : Calls Tryz.prog 91 #[.int .i64 8] w (GivesInts (fun v => knownF true v) ((needsOf 8).getD []) w) := by
  go_enter Tryz.func91, Tryz.ntmps91
  go_wp2_with fail
  go_ret2
  exact givesInts_new _ [14] w (by simp [maxLen])
set_option maxHeartbeats 1000000 in
theorem knownO_12 (w : World) : Calls Tryz.prog 91 #[.int .i64 12] w (GivesInts (fun v => knownF true v) ((needsOf 12).getD []) w) := by
  go_enter Tryz.func91, Tryz.ntmps91
  go_wp2_with fail
  go_ret2
  exact givesInts_new _ [24, 19] w (by simp [maxLen])
set_option maxHeartbeats 1000000 in
theorem knownO_9 (w : World) : Calls Tryz.prog 91 #[.int .i64 9] w (GivesInts (fun v => knownF true v) ((needsOf 9).getD []) w) := by
  go_enter Tryz.func91, Tryz.ntmps91
  go_wp2_with fail
  go_ret2
  exact givesInts_new _ [24, 19] w (by simp [maxLen])
set_option maxHeartbeats 1000000 in
theorem knownO_14 (w : World) : Calls Tryz.prog 91 #[.int .i64 14] w (GivesInts (fun v => knownF true v) ((needsOf 14).getD []) w) := by
  go_enter Tryz.func91, Tryz.ntmps91
  go_wp2_with fail
  go_ret2
  exact givesInts_new _ [1, 14] w (by simp [maxLen])
set_option maxHeartbeats 1000000 in
theorem knownO_15 (w : World) : Calls Tryz.prog 91 #[.int .i64 15] w (GivesInts (fun v => knownF true v) ((needsOf 15).getD []) w) := by
  go_enter Tryz.func91, Tryz.ntmps91
  go_wp2_with fail
  go_ret2
  exact givesInts_new _ [34] w (by simp [maxLen])
set_option maxHeartbeats 1000000 in
theorem knownO_16 (w : World) : Calls Tryz.prog 91 #[.int .i64 16] w (GivesInts (fun v => knownF true v) ((needsOf 16).getD []) w) := by
  go_enter Tryz.func91, Tryz.ntmps91
  go_wp2_with fail
  go_ret2
  exact givesInts_new _ [35] w (by simp [maxLen])
set_option maxHeartbeats 1000000 in
theorem knownO_3 (w : World) : Calls Tryz.prog 91 #[.int .i64 3] w (GivesInts (fun v => knownF true v) ((needsOf 3).getD []) w) := by
  go_enter Tryz.func91, Tryz.ntmps91
  go_wp2_with fail
  go_ret2
  exact givesInts_nil _ w
set_option maxHeartbeats 1000000 in
theorem knownO_6 (w : World) : Calls Tryz.prog 91 #[.int .i64 6] w (GivesInts (fun v => knownF true v) ((needsOf 6).getD []) w) := by
  go_enter Tryz.func91, Tryz.ntmps91
  go_wp2_with fail
  go_ret2
  exact givesInts_nil _ w
set_option maxHeartbeats 1000000 in
theorem knownO_none (kind : Int) (w : World) (h1 : ¬ kind = 1) (h2 : ¬ kind = 2) (h4 : ¬ kind = 4) (h10 : ¬ kind = 10) (h7 : ¬ kind = 7) (h11 : ¬ kind = 11) (h8 : ¬ kind = 8) (h12 : ¬ kind = 12) (h9 : ¬ kind = 9) (h14 : ¬ kind = 14) (h15 : ¬ kind = 15) (h16 : ¬ kind = 16) (h3 : ¬ kind = 3) (h6 : ¬ kind = 6) : Calls Tryz.prog 91 #[.int .i64 kind] w (GivesInts (fun v => knownF false v) [] w) := by
  go_enter Tryz.func91, Tryz.ntmps91
  go_wp2_with fail
  go_ret2
  exact givesInts_nil _ w
theorem knownO_any (kind : Int) (w : World) : Calls Tryz.prog 91 #[.int .i64 kind] w (GivesInts (fun v => knownF (needsOf kind).isSome v) ((needsOf kind).getD []) w) := by
  by_cases h1 : kind = 1
  · subst h1; exact knownO_1 w
  by_cases h2 : kind = 2
  · subst h2; exact knownO_2 w
  by_cases h4 : kind = 4
  · subst h4; exact knownO_4 w
  by_cases h10 : kind = 10
  · subst h10; exact knownO_10 w
  by_cases h7 : kind = 7
  · subst h7; exact knownO_7 w
  by_cases h11 : kind = 11
  · subst h11; exact knownO_11 w
  by_cases h8 : kind = 8
  · subst h8; exact knownO_8 w
  by_cases h12 : kind = 12
  · subst h12; exact knownO_12 w
  by_cases h9 : kind = 9
  · subst h9; exact knownO_9 w
  by_cases h14 : kind = 14
  · subst h14; exact knownO_14 w
  by_cases h15 : kind = 15
  · subst h15; exact knownO_15 w
  by_cases h16 : kind = 16
  · subst h16; exact knownO_16 w
  by_cases h3 : kind = 3
  · subst h3; exact knownO_3 w
  by_cases h6 : kind = 6
  · subst h6; exact knownO_6 w
  have e : needsOf kind = none := by simp [needsOf, h1, h2, h4, h10, h7, h11, h8, h12, h9, h14, h15, h16, h3, h6]
  rw [e]
  exact knownO_none kind w h1 h2 h4 h10 h7 h11 h8 h12 h9 h14 h15 h16 h3 h6
set_option maxHeartbeats 1000000 in
theorem rneeds_1 (w : World) : Calls Tryz.prog 21 #[.int .i64 1] w (GivesInts (fun v => .returned v) ((needsOf 1).getD []) w) := by
  go_enter Tryz.func21, Tryz.ntmps21
  go_wp2_with fail
  go_ret
  exact givesInts_new _ [2, 3, 7, 9] w (by simp [maxLen])
set_option maxHeartbeats 1000000 in
theorem rneeds_2 (w : World) : Calls Tryz.prog 21 #[.int .i64 2] w (GivesInts (fun v => .returned v) ((needsOf 2).getD []) w) := by
  go_enter Tryz.func21, Tryz.ntmps21
  go_wp2_with fail
  go_ret
  exact givesInts_new _ [2, 3, 7, 9] w (by simp [maxLen])
set_option maxHeartbeats 1000000 in
theorem rneeds_4 (w : World) : Calls Tryz.prog 21 #[.int .i64 4] w (GivesInts (fun v => .returned v) ((needsOf 4).getD []) w) := by
  go_enter Tryz.func21, Tryz.ntmps21
  go_wp2_with fail
  go_ret
  exact givesInts_new _ [9, 1] w (by simp [maxLen])
set_option maxHeartbeats 1000000 in
theorem rneeds_10 (w : World) : Calls Tryz.prog 21 #[.int .i64 10] w (GivesInts (fun v => .returned v) ((needsOf 10).getD []) w) := by
  go_enter Tryz.func21, Tryz.ntmps21
  go_wp2_with fail
  go_ret
  exact givesInts_new _ [14, 15] w (by simp [maxLen])
set_option maxHeartbeats 1000000 in
theorem rneeds_7 (w : World) : Calls Tryz.prog 21 #[.int .i64 7] w (GivesInts (fun v => .returned v) ((needsOf 7).getD []) w) := by
  go_enter Tryz.func21, Tryz.ntmps21
  go_wp2_with fail
  go_ret
  exact givesInts_new _ [14, 15] w (by simp [maxLen])
set_option maxHeartbeats 1000000 in
theorem rneeds_11 (w : World) : Calls Tryz.prog 21 #[.int .i64 11] w (GivesInts (fun v => .returned v) ((needsOf 11).getD []) w) := by
  go_enter Tryz.func21, Tryz.ntmps21
  go_wp2_with fail
  go_ret
  exact givesInts_new _ [14] w (by simp [maxLen])
set_option maxHeartbeats 1000000 in
theorem rneeds_8 (w : World) : Calls Tryz.prog 21 #[.int .i64 8] w (GivesInts (fun v => .returned v) ((needsOf 8).getD []) w) := by
  go_enter Tryz.func21, Tryz.ntmps21
  go_wp2_with fail
  go_ret
  exact givesInts_new _ [14] w (by simp [maxLen])
set_option maxHeartbeats 1000000 in
theorem rneeds_12 (w : World) : Calls Tryz.prog 21 #[.int .i64 12] w (GivesInts (fun v => .returned v) ((needsOf 12).getD []) w) := by
  go_enter Tryz.func21, Tryz.ntmps21
  go_wp2_with fail
  go_ret
  exact givesInts_new _ [24, 19] w (by simp [maxLen])
set_option maxHeartbeats 1000000 in
theorem rneeds_9 (w : World) : Calls Tryz.prog 21 #[.int .i64 9] w (GivesInts (fun v => .returned v) ((needsOf 9).getD []) w) := by
  go_enter Tryz.func21, Tryz.ntmps21
  go_wp2_with fail
  go_ret
  exact givesInts_new _ [24, 19] w (by simp [maxLen])
set_option maxHeartbeats 1000000 in
theorem rneeds_14 (w : World) : Calls Tryz.prog 21 #[.int .i64 14] w (GivesInts (fun v => .returned v) ((needsOf 14).getD []) w) := by
  go_enter Tryz.func21, Tryz.ntmps21
  go_wp2_with fail
  go_ret
  exact givesInts_new _ [1, 14] w (by simp [maxLen])
set_option maxHeartbeats 1000000 in
theorem rneeds_15 (w : World) : Calls Tryz.prog 21 #[.int .i64 15] w (GivesInts (fun v => .returned v) ((needsOf 15).getD []) w) := by
  go_enter Tryz.func21, Tryz.ntmps21
  go_wp2_with fail
  go_ret
  exact givesInts_new _ [34] w (by simp [maxLen])
set_option maxHeartbeats 1000000 in
theorem rneeds_16 (w : World) : Calls Tryz.prog 21 #[.int .i64 16] w (GivesInts (fun v => .returned v) ((needsOf 16).getD []) w) := by
  go_enter Tryz.func21, Tryz.ntmps21
  go_wp2_with fail
  go_ret
  exact givesInts_new _ [35] w (by simp [maxLen])
set_option maxHeartbeats 1000000 in
theorem rneeds_3 (w : World) : Calls Tryz.prog 21 #[.int .i64 3] w (GivesInts (fun v => .returned v) ((needsOf 3).getD []) w) := by
  go_enter Tryz.func21, Tryz.ntmps21
  go_wp2_with fail
  go_ret
  exact givesInts_nil _ w
set_option maxHeartbeats 1000000 in
theorem rneeds_6 (w : World) : Calls Tryz.prog 21 #[.int .i64 6] w (GivesInts (fun v => .returned v) ((needsOf 6).getD []) w) := by
  go_enter Tryz.func21, Tryz.ntmps21
  go_wp2_with fail
  go_ret
  exact givesInts_nil _ w
set_option maxHeartbeats 1000000 in
theorem rneeds_none (kind : Int) (w : World) (h1 : ¬ kind = 1) (h2 : ¬ kind = 2) (h4 : ¬ kind = 4) (h10 : ¬ kind = 10) (h7 : ¬ kind = 7) (h11 : ¬ kind = 11) (h8 : ¬ kind = 8) (h12 : ¬ kind = 12) (h9 : ¬ kind = 9) (h14 : ¬ kind = 14) (h15 : ¬ kind = 15) (h16 : ¬ kind = 16) (h3 : ¬ kind = 3) (h6 : ¬ kind = 6) : Calls Tryz.prog 21 #[.int .i64 kind] w (GivesInts (fun v => .returned v) [] w) := by
  go_enter Tryz.func21, Tryz.ntmps21
  go_wp2_with fail
  go_ret
  exact givesInts_nil _ w
theorem rneeds_any (kind : Int) (w : World) : Calls Tryz.prog 21 #[.int .i64 kind] w (GivesInts (fun v => .returned v) ((needsOf kind).getD []) w) := by
  by_cases h1 : kind = 1
  · subst h1; exact rneeds_1 w
  by_cases h2 : kind = 2
  · subst h2; exact rneeds_2 w
  by_cases h4 : kind = 4
  · subst h4; exact rneeds_4 w
  by_cases h10 : kind = 10
  · subst h10; exact rneeds_10 w
  by_cases h7 : kind = 7
  · subst h7; exact rneeds_7 w
  by_cases h11 : kind = 11
  · subst h11; exact rneeds_11 w
  by_cases h8 : kind = 8
  · subst h8; exact rneeds_8 w
  by_cases h12 : kind = 12
  · subst h12; exact rneeds_12 w
  by_cases h9 : kind = 9
  · subst h9; exact rneeds_9 w
  by_cases h14 : kind = 14
  · subst h14; exact rneeds_14 w
  by_cases h15 : kind = 15
  · subst h15; exact rneeds_15 w
  by_cases h16 : kind = 16
  · subst h16; exact rneeds_16 w
  by_cases h3 : kind = 3
  · subst h3; exact rneeds_3 w
  by_cases h6 : kind = 6
  · subst h6; exact rneeds_6 w
  have e : needsOf kind = none := by simp [needsOf, h1, h2, h4, h10, h7, h11, h8, h12, h9, h14, h15, h16, h3, h6]
  rw [e]
  exact rneeds_none kind w h1 h2 h4 h10 h7 h11 h8 h12 h9 h14 h15 h16 h3 h6
set_option maxHeartbeats 1000000 in
theorem needsO_any (kind : Int) (w : World) : Calls Tryz.prog 18 #[.int .i64 kind] w (GivesInts (fun v => .returned v) ((needsOf kind).getD []) w) := by
  have H := Lib.hid (knownO_any kind)
  generalize (needsOf kind).getD [] = l at *
  generalize (needsOf kind).isSome = b at *
  go_enter Tryz.func18, Tryz.ntmps18
  go_wp2_with fail
  refine (H.out _).mono ?_
  rintro e w1 ⟨⟨v, own, rfl, ho, hf, hu⟩⟩
  obtain ⟨ao, cap, rfl, -, -⟩ := ho.shape
  have HO := Lib.hid ho
  have HF := Lib.hid hf
  clear ho hf
  simp only [knownF]
  go_wp2_with fail
  go_ret
  exact ⟨⟨_, own, rfl, HO.out, HF.out, hu⟩⟩
end Go.Proofs.YtglafpdealjlnaaGreat
