/- WRITTEN by wip/gen/msgn.py. The walks of msg.Needs and of the document's Needs, with who owns what they give. The walk of msg.GetLoad. The walk of msg.PutLoad. The walks of the document's Same, SameCtl, at equal values. -/
import Derived.Test.YtglafpdealjlnaaGreatProg
import Derived.Test.YtglafpdealjlnaaGreatQMsgA
import Derived.Test.YtglafpdealjlnaaGreatQMsgH
import Derived.Test.YtglafpdealjlnaaGreatQLightA
import Derived.Test.YtglafpdealjlnaaGreatQStr
import Derived.Test.YtglafpdealjlnaaGreatQLib
import Derived.Test.YtglafpdealjlnaaGreatQRely
namespace Go.Proofs.YtglafpdealjlnaaGreat
open Go.RowKit
set_option linter.unusedSimpArgs false
set_option linter.unusedVariables false
set_option maxRecDepth 100000

/-- Fresh ints. -/
structure GivesInts (f : Value → Ending) (l : List Int) (w : World) (e : Ending) (w' : World) : Prop where
  ex : ∃ v own, e = f v ∧ Own w' 3 1 v l.length (l.map (Value.int .i64)) own ∧ (∀ k ∈ own, w.heap.size ≤ k) ∧ Upd [] w w'
theorem givesInts_new (f : Value → Ending) (l : List Int) (w : World) (hl : l.length ≤ maxLen) : GivesInts f l w (f (.slice (some ⟨w.heap.size, 0, none⟩) l.length l.length)) (w.alloc (.cells (l.map (Value.int .i64)).toArray 3)) :=
  ⟨_, [w.heap.size], rfl, Own.rows_new w 3 (by simp) hl, by simp, (Upd.refl _ _).alloc _⟩
theorem givesInts_nil (f : Value → Ending) (w : World) : GivesInts f [] w (f (.slice none 0 0)) w :=
  ⟨_, [], rfl, Own.nil _ _ _, by simp, Upd.refl _ _⟩
def knownF (b : Bool) (v : Value) : Ending := .returned (.tuple #[v, .bool b])
set_option maxHeartbeats 1000000 in
theorem knownO_1 (w : World) : Calls Tryz.prog 91 #[.int .i64 1] w (GivesInts (fun v => knownF true v) ((needsOf 1).getD []) w) := by
  go_enter Tryz.func91, Tryz.ntmps91
  go_wp2_with fail
  go_ret2
  exact givesInts_new _ [2, 3, 7, 9] w (by simp [maxLen])
set_option maxHeartbeats 1000000 in
theorem knownO_2 (w : World) : Calls Tryz.prog 91 #[.int .i64 2] w (GivesInts (fun v => knownF true v) ((needsOf 2).getD []) w) := by
  go_enter Tryz.func91, Tryz.ntmps91
  go_wp2_with fail
  go_ret2
  exact givesInts_new _ [2, 3, 7, 9] w (by simp [maxLen])
set_option maxHeartbeats 1000000 in
theorem knownO_4 (w : World) : Calls Tryz.prog 91 #[.int .i64 4] w (GivesInts (fun v => knownF true v) ((needsOf 4).getD []) w) := by
  go_enter Tryz.func91, Tryz.ntmps91
  go_wp2_with fail
  go_ret2
  exact givesInts_new _ [9, 1] w (by simp [maxLen])
set_option maxHeartbeats 1000000 in
theorem knownO_10 (w : World) : Calls Tryz.prog 91 #[.int .i64 10] w (GivesInts (fun v => knownF true v) ((needsOf 10).getD []) w) := by
  go_enter Tryz.func91, Tryz.ntmps91
  go_wp2_with fail
  go_ret2
  exact givesInts_new _ [14, 15] w (by simp [maxLen])
set_option maxHeartbeats 1000000 in
theorem knownO_7 (w : World) : Calls Tryz.prog 91 #[.int .i64 7] w (GivesInts (fun v => knownF true v) ((needsOf 7).getD []) w) := by
  go_enter Tryz.func91, Tryz.ntmps91
  go_wp2_with fail
  go_ret2
  exact givesInts_new _ [14, 15] w (by simp [maxLen])
set_option maxHeartbeats 1000000 in
theorem knownO_11 (w : World) : Calls Tryz.prog 91 #[.int .i64 11] w (GivesInts (fun v => knownF true v) ((needsOf 11).getD []) w) := by
  go_enter Tryz.func91, Tryz.ntmps91
  go_wp2_with fail
  go_ret2
  exact givesInts_new _ [14] w (by simp [maxLen])
set_option maxHeartbeats 1000000 in
theorem knownO_8 (w : World) : Calls Tryz.prog 91 #[.int .i64 8] w (GivesInts (fun v => knownF true v) ((needsOf 8).getD []) w) := by
  go_enter Tryz.func91, Tryz.ntmps91
  go_wp2_with fail
  go_ret2
  exact givesInts_new _ [14] w (by simp [maxLen])
set_option maxHeartbeats 1000000 in
theorem knownO_12 (w : World) : Calls Tryz.prog 91 #[.int .i64 12] w (GivesInts (fun v => knownF true v) ((needsOf 12).getD []) w) := by
  go_enter Tryz.func91, Tryz.ntmps91
  go_wp2_with fail
  go_ret2
  exact givesInts_new _ [24, 19] w (by simp [maxLen])
set_option maxHeartbeats 1000000 in
theorem knownO_9 (w : World) : Calls Tryz.prog 91 #[.int .i64 9] w (GivesInts (fun v => knownF true v) ((needsOf 9).getD []) w) := by
  go_enter Tryz.func91, Tryz.ntmps91
  go_wp2_with fail
  go_ret2
  exact givesInts_new _ [24, 19] w (by simp [maxLen])
set_option maxHeartbeats 1000000 in
theorem knownO_14 (w : World) : Calls Tryz.prog 91 #[.int .i64 14] w (GivesInts (fun v => knownF true v) ((needsOf 14).getD []) w) := by
  go_enter Tryz.func91, Tryz.ntmps91
  go_wp2_with fail
  go_ret2
  exact givesInts_new _ [1, 14] w (by simp [maxLen])
set_option maxHeartbeats 1000000 in
theorem knownO_15 (w : World) : Calls Tryz.prog 91 #[.int .i64 15] w (GivesInts (fun v => knownF true v) ((needsOf 15).getD []) w) := by
  go_enter Tryz.func91, Tryz.ntmps91
  go_wp2_with fail
  go_ret2
  exact givesInts_new _ [34] w (by simp [maxLen])
set_option maxHeartbeats 1000000 in
theorem knownO_16 (w : World) : Calls Tryz.prog 91 #[.int .i64 16] w (GivesInts (fun v => knownF true v) ((needsOf 16).getD []) w) := by
  go_enter Tryz.func91, Tryz.ntmps91
  go_wp2_with fail
  go_ret2
  exact givesInts_new _ [35] w (by simp [maxLen])
set_option maxHeartbeats 1000000 in
theorem knownO_3 (w : World) : Calls Tryz.prog 91 #[.int .i64 3] w (GivesInts (fun v => knownF true v) ((needsOf 3).getD []) w) := by
  go_enter Tryz.func91, Tryz.ntmps91
  go_wp2_with fail
  go_ret2
  exact givesInts_nil _ w
set_option maxHeartbeats 1000000 in
theorem knownO_6 (w : World) : Calls Tryz.prog 91 #[.int .i64 6] w (GivesInts (fun v => knownF true v) ((needsOf 6).getD []) w) := by
  go_enter Tryz.func91, Tryz.ntmps91
  go_wp2_with fail
  go_ret2
  exact givesInts_nil _ w
set_option maxHeartbeats 1000000 in
theorem knownO_none (kind : Int) (w : World) (h1 : ¬ kind = 1) (h2 : ¬ kind = 2) (h4 : ¬ kind = 4) (h10 : ¬ kind = 10) (h7 : ¬ kind = 7) (h11 : ¬ kind = 11) (h8 : ¬ kind = 8) (h12 : ¬ kind = 12) (h9 : ¬ kind = 9) (h14 : ¬ kind = 14) (h15 : ¬ kind = 15) (h16 : ¬ kind = 16) (h3 : ¬ kind = 3) (h6 : ¬ kind = 6) : Calls Tryz.prog 91 #[.int .i64 kind] w (GivesInts (fun v => knownF false v) [] w) := by
  go_enter Tryz.func91, Tryz.ntmps91
  go_wp2_with fail
  go_ret2
  exact givesInts_nil _ w
theorem knownO_any (kind : Int) (w : World) : Calls Tryz.prog 91 #[.int .i64 kind] w (GivesInts (fun v => knownF (needsOf kind).isSome v) ((needsOf kind).getD []) w) := by
  by_cases h1 : kind = 1
  · subst h1; exact knownO_1 w
  by_cases h2 : kind = 2
  · subst h2; exact knownO_2 w
  by_cases h4 : kind = 4
  · subst h4; exact knownO_4 w
  by_cases h10 : kind = 10
  · subst h10; exact knownO_10 w
  by_cases h7 : kind = 7
  · subst h7; exact knownO_7 w
  by_cases h11 : kind = 11
  · subst h11; exact knownO_11 w
  by_cases h8 : kind = 8
  · subst h8; exact knownO_8 w
  by_cases h12 : kind = 12
  · subst h12; exact knownO_12 w
  by_cases h9 : kind = 9
  · subst h9; exact knownO_9 w
  by_cases h14 : kind = 14
  · subst h14; exact knownO_14 w
  by_cases h15 : kind = 15
  · subst h15; exact knownO_15 w
  by_cases h16 : kind = 16
  · subst h16; exact knownO_16 w
  by_cases h3 : kind = 3
  · subst h3; exact knownO_3 w
  by_cases h6 : kind = 6
  · subst h6; exact knownO_6 w
  have e : needsOf kind = none := by simp [needsOf, h1, h2, h4, h10, h7, h11, h8, h12, h9, h14, h15, h16, h3, h6]
  rw [e]
  exact knownO_none kind w h1 h2 h4 h10 h7 h11 h8 h12 h9 h14 h15 h16 h3 h6
set_option maxHeartbeats 1000000 in
theorem rneeds_1 (w : World) : Calls Tryz.prog 21 #[.int .i64 1] w (GivesInts (fun v => .returned v) ((needsOf 1).getD []) w) := by
  go_enter Tryz.func21, Tryz.ntmps21
  go_wp2_with fail
  go_ret
  exact givesInts_new _ [2, 3, 7, 9] w (by simp [maxLen])
set_option maxHeartbeats 1000000 in
theorem rneeds_2 (w : World) : Calls Tryz.prog 21 #[.int .i64 2] w (GivesInts (fun v => .returned v) ((needsOf 2).getD []) w) := by
  go_enter Tryz.func21, Tryz.ntmps21
  go_wp2_with fail
  go_ret
  exact givesInts_new _ [2, 3, 7, 9] w (by simp [maxLen])
set_option maxHeartbeats 1000000 in
theorem rneeds_4 (w : World) : Calls Tryz.prog 21 #[.int .i64 4] w (GivesInts (fun v => .returned v) ((needsOf 4).getD []) w) := by
  go_enter Tryz.func21, Tryz.ntmps21
  go_wp2_with fail
  go_ret
  exact givesInts_new _ [9, 1] w (by simp [maxLen])
set_option maxHeartbeats 1000000 in
theorem rneeds_10 (w : World) : Calls Tryz.prog 21 #[.int .i64 10] w (GivesInts (fun v => .returned v) ((needsOf 10).getD []) w) := by
  go_enter Tryz.func21, Tryz.ntmps21
  go_wp2_with fail
  go_ret
  exact givesInts_new _ [14, 15] w (by simp [maxLen])
set_option maxHeartbeats 1000000 in
theorem rneeds_7 (w : World) : Calls Tryz.prog 21 #[.int .i64 7] w (GivesInts (fun v => .returned v) ((needsOf 7).getD []) w) := by
  go_enter Tryz.func21, Tryz.ntmps21
  go_wp2_with fail
  go_ret
  exact givesInts_new _ [14, 15] w (by simp [maxLen])
set_option maxHeartbeats 1000000 in
theorem rneeds_11 (w : World) : Calls Tryz.prog 21 #[.int .i64 11] w (GivesInts (fun v => .returned v) ((needsOf 11).getD []) w) := by
  go_enter Tryz.func21, Tryz.ntmps21
  go_wp2_with fail
  go_ret
  exact givesInts_new _ [14] w (by simp [maxLen])
set_option maxHeartbeats 1000000 in
theorem rneeds_8 (w : World) : Calls Tryz.prog 21 #[.int .i64 8] w (GivesInts (fun v => .returned v) ((needsOf 8).getD []) w) := by
  go_enter Tryz.func21, Tryz.ntmps21
  go_wp2_with fail
  go_ret
  exact givesInts_new _ [14] w (by simp [maxLen])
set_option maxHeartbeats 1000000 in
theorem rneeds_12 (w : World) : Calls Tryz.prog 21 #[.int .i64 12] w (GivesInts (fun v => .returned v) ((needsOf 12).getD []) w) := by
  go_enter Tryz.func21, Tryz.ntmps21
  go_wp2_with fail
  go_ret
  exact givesInts_new _ [24, 19] w (by simp [maxLen])
set_option maxHeartbeats 1000000 in
theorem rneeds_9 (w : World) : Calls Tryz.prog 21 #[.int .i64 9] w (GivesInts (fun v => .returned v) ((needsOf 9).getD []) w) := by
  go_enter Tryz.func21, Tryz.ntmps21
  go_wp2_with fail
  go_ret
  exact givesInts_new _ [24, 19] w (by simp [maxLen])
set_option maxHeartbeats 1000000 in
theorem rneeds_14 (w : World) : Calls Tryz.prog 21 #[.int .i64 14] w (GivesInts (fun v => .returned v) ((needsOf 14).getD []) w) := by
  go_enter Tryz.func21, Tryz.ntmps21
  go_wp2_with fail
  go_ret
  exact givesInts_new _ [1, 14] w (by simp [maxLen])
set_option maxHeartbeats 1000000 in
theorem rneeds_15 (w : World) : Calls Tryz.prog 21 #[.int .i64 15] w (GivesInts (fun v => .returned v) ((needsOf 15).getD []) w) := by
  go_enter Tryz.func21, Tryz.ntmps21
  go_wp2_with fail
  go_ret
  exact givesInts_new _ [34] w (by simp [maxLen])
set_option maxHeartbeats 1000000 in
theorem rneeds_16 (w : World) : Calls Tryz.prog 21 #[.int .i64 16] w (GivesInts (fun v => .returned v) ((needsOf 16).getD []) w) := by
  go_enter Tryz.func21, Tryz.ntmps21
  go_wp2_with fail
  go_ret
  exact givesInts_new _ [35] w (by simp [maxLen])
set_option maxHeartbeats 1000000 in
theorem rneeds_3 (w : World) : Calls Tryz.prog 21 #[.int .i64 3] w (GivesInts (fun v => .returned v) ((needsOf 3).getD []) w) := by
  go_enter Tryz.func21, Tryz.ntmps21
  go_wp2_with fail
  go_ret
  exact givesInts_nil _ w
set_option maxHeartbeats 1000000 in
theorem rneeds_6 (w : World) : Calls Tryz.prog 21 #[.int .i64 6] w (GivesInts (fun v => .returned v) ((needsOf 6).getD []) w) := by
  go_enter Tryz.func21, Tryz.ntmps21
  go_wp2_with fail
  go_ret
  exact givesInts_nil _ w
set_option maxHeartbeats 1000000 in
theorem rneeds_none (kind : Int) (w : World) (h1 : ¬ kind = 1) (h2 : ¬ kind = 2) (h4 : ¬ kind = 4) (h10 : ¬ kind = 10) (h7 : ¬ kind = 7) (h11 : ¬ kind = 11) (h8 : ¬ kind = 8) (h12 : ¬ kind = 12) (h9 : ¬ kind = 9) (h14 : ¬ kind = 14) (h15 : ¬ kind = 15) (h16 : ¬ kind = 16) (h3 : ¬ kind = 3) (h6 : ¬ kind = 6) : Calls Tryz.prog 21 #[.int .i64 kind] w (GivesInts (fun v => .returned v) [] w) := by
  go_enter Tryz.func21, Tryz.ntmps21
  go_wp2_with fail
  go_ret
  exact givesInts_nil _ w
theorem rneeds_any (kind : Int) (w : World) : Calls Tryz.prog 21 #[.int .i64 kind] w (GivesInts (fun v => .returned v) ((needsOf kind).getD []) w) := by
  by_cases h1 : kind = 1
  · subst h1; exact rneeds_1 w
  by_cases h2 : kind = 2
  · subst h2; exact rneeds_2 w
  by_cases h4 : kind = 4
  · subst h4; exact rneeds_4 w
  by_cases h10 : kind = 10
  · subst h10; exact rneeds_10 w
  by_cases h7 : kind = 7
  · subst h7; exact rneeds_7 w
  by_cases h11 : kind = 11
  · subst h11; exact rneeds_11 w
  by_cases h8 : kind = 8
  · subst h8; exact rneeds_8 w
  by_cases h12 : kind = 12
  · subst h12; exact rneeds_12 w
  by_cases h9 : kind = 9
  · subst h9; exact rneeds_9 w
  by_cases h14 : kind = 14
  · subst h14; exact rneeds_14 w
  by_cases h15 : kind = 15
  · subst h15; exact rneeds_15 w
  by_cases h16 : kind = 16
  · subst h16; exact rneeds_16 w
  by_cases h3 : kind = 3
  · subst h3; exact rneeds_3 w
  by_cases h6 : kind = 6
  · subst h6; exact rneeds_6 w
  have e : needsOf kind = none := by simp [needsOf, h1, h2, h4, h10, h7, h11, h8, h12, h9, h14, h15, h16, h3, h6]
  rw [e]
  exact rneeds_none kind w h1 h2 h4 h10 h7 h11 h8 h12 h9 h14 h15 h16 h3 h6
set_option maxHeartbeats 1000000 in
theorem needsO_any (kind : Int) (w : World) : Calls Tryz.prog 18 #[.int .i64 kind] w (GivesInts (fun v => .returned v) ((needsOf kind).getD []) w) := by
  have H := Lib.hid (knownO_any kind)
  generalize (needsOf kind).getD [] = l at *
  generalize (needsOf kind).isSome = b at *
  go_enter Tryz.func18, Tryz.ntmps18
  go_wp2_with fail
  refine (H.out _).mono ?_
  rintro e w1 ⟨⟨v, own, rfl, ho, hf, hu⟩⟩
  obtain ⟨ao, cap, rfl, -, -⟩ := ho.shape
  have HO := Lib.hid ho
  have HF := Lib.hid hf
  clear ho hf
  simp only [knownF]
  go_wp2_with fail
  go_ret
  exact ⟨⟨_, own, rfl, HO.out, HF.out, hu⟩⟩
end Go.Proofs.YtglafpdealjlnaaGreat
namespace Go.Proofs.YtglafpdealjlnaaGreat
open Go.RowKit
set_option linter.unusedSimpArgs false
set_option linter.unusedVariables false
set_option maxRecDepth 100000

def glA (w0 : World) (cs : Array Value) (vs : List Value) (w : World) : Prop := match vs with
  | [] => Upd [] w0 w
  | [a] => Upd [] w0 w ∧ ∃ g, w0.heap.size ≤ g ∧ a = .pointer (some ⟨g, 0, none⟩) ∧ Blk w g 26 #[.int .i64 0, .int .i64 0, .bool false, .int .i64 0, .int .i64 0, .string ⟨#[]⟩]
  | [a, _] => Upd [] w0 w ∧ ∃ g, w0.heap.size ≤ g ∧ a = .pointer (some ⟨g, 0, none⟩) ∧ Blk w g 26 cs
  | _ => False
theorem glA_keep {w0 w w' : World} {cs : Array Value} {vs : List Value} (h : glA w0 cs vs w) (hu : Upd [] w w') : glA w0 cs vs w' := by
  match vs, h with
  | [], h => exact Upd.trans (show Upd [] w0 w from h) hu
  | [a], ⟨h1, g, h2, h3, h4⟩ => exact ⟨h1.trans hu, g, h2, h3, h4.upd hu (by simp)⟩
  | [a, _], ⟨h1, g, h2, h3, h4⟩ => exact ⟨h1.trans hu, g, h2, h3, h4.upd hu (by simp)⟩
def getL (b : ByteArray) : Ld × Int :=
  if b.size < 8 then (.zero, 5) else
  if ¬ (byte b 0 = 64 ∨ byte b 0 = 72) ∨ byte b 1 ≠ 2 then (.zero, 4) else
  if (b.size : Int) < num b 2 2 then (.zero, 5) else
  if num b 2 2 < (if byte b 0 = 72 then 12 else 8) then (.zero, 4) else
  if 1460 < num b 2 2 - (if byte b 0 = 72 then 12 else 8) then (.zero, 2) else
  if byte b 0 = 72 then (⟨num b 4 2, num b 6 2, true, num b 8 2, num b 10 2, b.extract 12 (num b 2 2).toNat⟩, 0)
  else (⟨num b 4 2, num b 6 2, false, 0, 0, b.extract 8 (num b 2 2).toNat⟩, 0)
theorem seq8 (x : Int) (h : 0 ≤ x ∧ x < 256) : (bits .andNot .u8 x 8 != 64) = !(decide (x = 64) || decide (x = 72)) := by
  obtain ⟨m, rfl⟩ := Int.eq_ofNat_of_zero_le h.1
  have : ∀ m : Nat, m < 256 → (bits .andNot .u8 (m : Int) 8 != 64) = !(decide ((m : Int) = 64) || decide ((m : Int) = 72)) := by decide +kernel
  exact this m (by omega)

set_option maxHeartbeats 8000000 in
theorem getLoad_any (b : ByteArray) (hb : b.size ≤ 400000) (w : World) :
    Calls Tryz.prog 29 #[.string b] w fun e w' => e = .returned (.tuple #[(getL b).1.agg, .int .i64 (getL b).2]) ∧ Upd [] w w' := by
  obtain ⟨R, hR⟩ : ∃ R, getL b = R := ⟨_, rfl⟩
  rw [hR]
  have HR := Lib.hid hR
  clear hR
  simp only [getL] at HR
  by_cases t1 : b.size < 8
  · have hr := HR.out
    rw [if_pos t1] at hr
    subst hr
    clear HR
    simp only [Ld.zero, Ld.agg]
    have t1' : (b.size : Int) < 8 := by omega
    go_enter Tryz.func29, Tryz.ntmps29
    go_wp2_with fail
    exact bodyPost_ret (v := .tuple #[.agg #[.int .i64 0, .int .i64 0, .bool false, .int .i64 0, .int .i64 0, .string ⟨#[]⟩], .int .i64 5]) (by simp [results, Tryz.results29, go_sem]) rfl ⟨rfl, (by repeat (first | refine Upd.setCell _ ?_ (.inr (by simp)) | refine Upd.alloc _ ?_ | exact Upd.refl _ _))⟩
  have HR1 : Hid (_ = R) := (if_neg t1).symm.trans HR.out
  have t1' : ¬ (b.size : Int) < 8 := by omega
  clear HR
  have p0 : 0 < b.size := by omega
  have p1 : 1 < b.size := by omega
  have q0 := byte_get b 0 p0
  have q1 := byte_get b 1 p1
  have hb0 := byte_bd b 0
  have hb1 := byte_bd b 1
  have hn := num_bd b 2 2
  have HN2 := Lib.hid (msgNum_any b 2 (by simp only [maxLen]; omega) (by omega))
  have HN4 := Lib.hid (msgNum_any b 4 (by simp only [maxLen]; omega) (by omega))
  have HN6 := Lib.hid (msgNum_any b 6 (by simp only [maxLen]; omega) (by omega))
  have HN8 := fun h => Lib.hid (msgNum_any b 8 (by simp only [maxLen]; omega) h)
  have HN10 := fun h => Lib.hid (msgNum_any b 10 (by simp only [maxLen]; omega) h)
  obtain ⟨n, hnn⟩ : ∃ n : Nat, num b 2 2 = n := Int.eq_ofNat_of_zero_le hn.1
  rw [hnn] at HR1 HN2 hn
  rw [Int.toNat_natCast] at HR1
  generalize byte b 0 = y0 at *
  generalize byte b 1 = y1 at *
  have hs8 := seq8 y0 hb0
  clear hnn
  by_cases t2 : ¬ (y0 = 64 ∨ y0 = 72) ∨ y1 ≠ 2
  · have hr := HR1.out
    rw [if_pos t2] at hr
    subst hr
    clear HR1
    simp only [Ld.zero, Ld.agg]
    by_cases t3 : y0 = 64 ∨ y0 = 72
    · have t4 : y1 ≠ 2 := by rcases t2 with h | h; exact absurd t3 h; exact h
      have r0 : (bits .andNot .u8 y0 8 != 64) = false := by rw [hs8]; rcases t3 with h | h <;> rw [h] <;> rfl
      have r1 : (y1 != 2) = true := by simpa using t4
      clear t2 t3 t4 hs8
      cases hsq : (bits .and .u8 y0 8 != 0)
      · go_enter Tryz.func29, Tryz.ntmps29
        go_wp2_with fail
        refine (HN2.out _).mono ?_
        rintro e w1 ⟨rfl, rfl⟩
        go_wp2_with fail
        exact bodyPost_ret (v := .tuple #[.agg #[.int .i64 0, .int .i64 0, .bool false, .int .i64 0, .int .i64 0, .string ⟨#[]⟩], .int .i64 4]) (by simp [results, Tryz.results29, go_sem]) rfl ⟨rfl, (by repeat (first | refine Upd.setCell _ ?_ (.inr (by simp)) | refine Upd.alloc _ ?_ | exact Upd.refl _ _))⟩
      · go_enter Tryz.func29, Tryz.ntmps29
        go_wp2_with fail
        refine (HN2.out _).mono ?_
        rintro e w1 ⟨rfl, rfl⟩
        go_wp2_with fail
        exact bodyPost_ret (v := .tuple #[.agg #[.int .i64 0, .int .i64 0, .bool false, .int .i64 0, .int .i64 0, .string ⟨#[]⟩], .int .i64 4]) (by simp [results, Tryz.results29, go_sem]) rfl ⟨rfl, (by repeat (first | refine Upd.setCell _ ?_ (.inr (by simp)) | refine Upd.alloc _ ?_ | exact Upd.refl _ _))⟩
    · have r0 : (bits .andNot .u8 y0 8 != 64) = true := by rw [hs8]; simp; omega
      clear t2 t3 hs8
      cases hsq : (bits .and .u8 y0 8 != 0)
      · go_enter Tryz.func29, Tryz.ntmps29
        go_wp2_with fail
        refine (HN2.out _).mono ?_
        rintro e w1 ⟨rfl, rfl⟩
        go_wp2_with fail
        exact bodyPost_ret (v := .tuple #[.agg #[.int .i64 0, .int .i64 0, .bool false, .int .i64 0, .int .i64 0, .string ⟨#[]⟩], .int .i64 4]) (by simp [results, Tryz.results29, go_sem]) rfl ⟨rfl, (by repeat (first | refine Upd.setCell _ ?_ (.inr (by simp)) | refine Upd.alloc _ ?_ | exact Upd.refl _ _))⟩
      · go_enter Tryz.func29, Tryz.ntmps29
        go_wp2_with fail
        refine (HN2.out _).mono ?_
        rintro e w1 ⟨rfl, rfl⟩
        go_wp2_with fail
        exact bodyPost_ret (v := .tuple #[.agg #[.int .i64 0, .int .i64 0, .bool false, .int .i64 0, .int .i64 0, .string ⟨#[]⟩], .int .i64 4]) (by simp [results, Tryz.results29, go_sem]) rfl ⟨rfl, (by repeat (first | refine Upd.setCell _ ?_ (.inr (by simp)) | refine Upd.alloc _ ?_ | exact Upd.refl _ _))⟩
  have HR2 : Hid (_ = R) := (if_neg t2).symm.trans HR1.out
  have t3 : y0 = 64 ∨ y0 = 72 := Classical.byContradiction fun h => t2 (.inl h)
  have r1 : y1 = 2 := Classical.byContradiction fun h => t2 (.inr h)
  have r0 : (bits .andNot .u8 y0 8 != 64) = false := by rw [hs8]; rcases t3 with h | h <;> rw [h] <;> rfl
  subst r1
  clear HR1 t2 hs8
  rcases t3 with hy | hy
  · have ha : (bits .and .u8 y0 8 != 0) = false := by rw [hy]; decide
    subst hy
    by_cases t4 : (b.size : Int) < n
    · have hr := HR2.out
      rw [if_pos t4] at hr
      subst hr
      clear HR2
      simp only [Ld.zero, Ld.agg]
      go_enter Tryz.func29, Tryz.ntmps29
      go_wp2_with fail
      refine (HN2.out _).mono ?_
      rintro e w1 ⟨rfl, rfl⟩
      go_wp2_with fail
      exact bodyPost_ret (v := .tuple #[.agg #[.int .i64 0, .int .i64 0, .bool false, .int .i64 0, .int .i64 0, .string ⟨#[]⟩], .int .i64 5]) (by simp [results, Tryz.results29, go_sem]) rfl ⟨rfl, (by repeat (first | refine Upd.setCell _ ?_ (.inr (by simp)) | refine Upd.alloc _ ?_ | exact Upd.refl _ _))⟩
    have HR3 : Hid (_ = R) := (if_neg t4).symm.trans HR2.out
    clear HR2
    by_cases t5 : (n : Int) < 8
    · have t5' : (n : Int) < (if (64 : Int) = 72 then 12 else 8) := t5
      have hr := HR3.out
      rw [if_pos t5'] at hr
      subst hr
      clear HR3
      simp only [Ld.zero, Ld.agg]
      clear t5'
      go_enter Tryz.func29, Tryz.ntmps29
      go_wp2_with fail
      refine (HN2.out _).mono ?_
      rintro e w1 ⟨rfl, rfl⟩
      go_wp2_with fail
      exact bodyPost_ret (v := .tuple #[.agg #[.int .i64 0, .int .i64 0, .bool false, .int .i64 0, .int .i64 0, .string ⟨#[]⟩], .int .i64 4]) (by simp [results, Tryz.results29, go_sem]) rfl ⟨rfl, (by repeat (first | refine Upd.setCell _ ?_ (.inr (by simp)) | refine Upd.alloc _ ?_ | exact Upd.refl _ _))⟩
    have t5' : ¬ (n : Int) < (if (64 : Int) = 72 then 12 else 8) := t5
    have HR4 : Hid (_ = R) := (if_neg t5').symm.trans HR3.out
    clear HR3 t5'
    by_cases t6 : 1460 < (n : Int) - 8
    · have t6' : 1460 < (n : Int) - (if (64 : Int) = 72 then 12 else 8) := t6
      have hr := HR4.out
      rw [if_pos t6'] at hr
      subst hr
      clear HR4
      simp only [Ld.zero, Ld.agg]
      clear t6'
      go_enter Tryz.func29, Tryz.ntmps29
      go_wp2_with fail
      refine (HN2.out _).mono ?_
      rintro e w1 ⟨rfl, rfl⟩
      go_wp2_with fail
      exact bodyPost_ret (v := .tuple #[.agg #[.int .i64 0, .int .i64 0, .bool false, .int .i64 0, .int .i64 0, .string ⟨#[]⟩], .int .i64 2]) (by simp [results, Tryz.results29, go_sem]) rfl ⟨rfl, (by repeat (first | refine Upd.setCell _ ?_ (.inr (by simp)) | refine Upd.alloc _ ?_ | exact Upd.refl _ _))⟩
    have t6' : ¬ 1460 < (n : Int) - (if (64 : Int) = 72 then 12 else 8) := t6
    have HR5 : Hid (_ = R) := (if_neg t6').symm.trans HR4.out
    clear HR4 t6'
    have hr := HR5.out
    rw [if_neg (by decide)] at hr
    subst hr
    clear HR5
    obtain ⟨d, hd⟩ : ∃ d, b.extract 8 n = d := ⟨_, rfl⟩
    have hdz : d.size ≤ 1460 := by rw [← hd, ByteArray.size_extract]; omega
    have HEX := Lib.hid hd
    have HDZ := Lib.hid hdz
    rw [hd]
    have B2 : Hid (Blk (w.alloc (.cells #[.int .i64 0, .int .i64 0, .bool false, .int .i64 0, .int .i64 0, .string ⟨#[]⟩] 26)) w.heap.size 26 #[.int .i64 0, .int .i64 0, .bool false, .int .i64 0, .int .i64 0, .string ⟨#[]⟩]) := Blk.new _ _ _
    have U2 : Hid (Upd [] w (w.alloc (.cells #[.int .i64 0, .int .i64 0, .bool false, .int .i64 0, .int .i64 0, .string ⟨#[]⟩] 26))) := (Upd.refl _ _).alloc _
    clear HN8 HN10
    clear hd hdz
    simp only [Ld.agg]
    generalize num b 4 2 = k4 at *
    generalize num b 6 2 = k6 at *
    go_enter Tryz.func29, Tryz.ntmps29
    go_wp2_with fail
    refine (HN2.out _).mono ?_
    rintro e w1 ⟨rfl, rfl⟩
    go_wp2_with fail
    generalize w.alloc (.cells #[.int .i64 0, .int .i64 0, .bool false, .int .i64 0, .int .i64 0, .string ⟨#[]⟩] 26) = wz at *
    have hpz : w.heap.size < wz.heap.size := B2.out.lt
    refine wp_region_chain [some (.string b), some (.int .i64 k4), some (.string b), some (.int .i64 k6), some (.bool false), some (.string b), some (.int .i64 8), some (.int .i64 n), some (.string d), some (.string d), some (.agg #[.int .i64 k4, .int .i64 k6, .bool false, .int .i64 0, .int .i64 0, .string d]), none, none] [11,12] (glA wz #[.int .i64 k4, .int .i64 k6, .bool false, .int .i64 0, .int .i64 0, .string d]) [(0, 1), (0, 1), (0, 1), (0, 1), (0, 1), (0, 1), (0, 1), (0, 1), (0, 1), (0, 1), (0, 1), (0, 0), (1, 1)] (by kernel_rfl) (by kernel_rfl) (by kernel_rfl) (by kernel_rfl) (by kernel_rfl) (by kernel_rfl) ((Upd.refl _ _).drew) ?_ ?_
    · refine StepsC.cons ?_ (StepsC.cons ?_ (StepsC.cons ?_ (StepsC.cons ?_ (StepsC.cons ?_ (StepsC.cons ?_ (StepsC.cons ?_ (StepsC.cons ?_ (StepsC.cons ?_ (StepsC.cons ?_ (StepsC.cons ?_ (StepsC.cons ?_ (StepsC.cons ?_ StepsC.nil))))))))))))
      · refine chain_is _ (.inl rfl) ⟨_, rfl⟩ (by kernel_rfl) rfl ?_
        intro a W kst l0 h0 A0 hF hD
        have e0 : a.tmps[0]?.getD undef = _ := (ev a 0).symm.trans (hF 0 (by kernel_rfl))
        clear hF hD
        go_simp
      · refine chain_beside _ (.inl rfl) ⟨_, rfl⟩ (by kernel_rfl) rfl ?_
        intro a W kst l0 h0 A0 hF hD
        have e47 : a.tmps[47]?.getD undef = .string b := (ev a 47).symm.trans (hD _ (Array.mem_of_getElem? (i := 0) rfl) rfl)
        clear hF hD
        refine ⟨_, _, by (go_simp; first | done | rfl | exact ⟨rfl, rfl⟩), ?_⟩
        refine (HN4.out _).mono ?_
        rintro e wq ⟨rfl, rfl⟩
        exact ⟨rfl, A0⟩
      · refine chain_is _ (.inl rfl) ⟨_, rfl⟩ (by kernel_rfl) rfl ?_
        intro a W kst l0 h0 A0 hF hD
        have e0 : a.tmps[0]?.getD undef = _ := (ev a 0).symm.trans (hF 0 (by kernel_rfl))
        clear hF hD
        go_simp
      · refine chain_beside _ (.inl rfl) ⟨_, rfl⟩ (by kernel_rfl) rfl ?_
        intro a W kst l0 h0 A0 hF hD
        have e49 : a.tmps[49]?.getD undef = .string b := (ev a 49).symm.trans (hD _ (Array.mem_of_getElem? (i := 0) rfl) rfl)
        clear hF hD
        refine ⟨_, _, by (go_simp; first | done | rfl | exact ⟨rfl, rfl⟩), ?_⟩
        refine (HN6.out _).mono ?_
        rintro e wq ⟨rfl, rfl⟩
        exact ⟨rfl, A0⟩
      · refine chain_is _ (.inl rfl) ⟨_, rfl⟩ (by kernel_rfl) rfl ?_
        intro a W kst l0 h0 A0 hF hD
        have e4 : a.tmps[4]?.getD undef = _ := (ev a 4).symm.trans (hF 4 (by kernel_rfl))
        clear hF hD
        go_simp
      · refine chain_is _ (.inl rfl) ⟨_, rfl⟩ (by kernel_rfl) rfl ?_
        intro a W kst l0 h0 A0 hF hD
        have e0 : a.tmps[0]?.getD undef = _ := (ev a 0).symm.trans (hF 0 (by kernel_rfl))
        clear hF hD
        go_simp
      · refine chain_is _ (.inl rfl) ⟨_, rfl⟩ (by kernel_rfl) rfl ?_
        intro a W kst l0 h0 A0 hF hD
        have e5 : a.tmps[5]?.getD undef = _ := (ev a 5).symm.trans (hF 5 (by kernel_rfl))
        clear hF hD
        go_simp
      · refine chain_is _ (.inl rfl) ⟨_, rfl⟩ (by kernel_rfl) rfl ?_
        intro a W kst l0 h0 A0 hF hD
        have e6 : a.tmps[6]?.getD undef = _ := (ev a 6).symm.trans (hF 6 (by kernel_rfl))
        clear hF hD
        go_simp
      · refine chain_is _ (.inl rfl) ⟨_, rfl⟩ (by kernel_rfl) rfl ?_
        intro a W kst l0 h0 A0 hF hD
        have e52 : a.tmps[52]?.getD undef = .string b := (ev a 52).symm.trans (hD _ (Array.mem_of_getElem? (i := 0) rfl) rfl)
        have e53 : a.tmps[53]?.getD undef = .int .i64 8 := (ev a 53).symm.trans (hD _ (Array.mem_of_getElem? (i := 1) rfl) rfl)
        have e54 : a.tmps[54]?.getD undef = .int .i64 n := (ev a 54).symm.trans (hD _ (Array.mem_of_getElem? (i := 2) rfl) rfl)
        clear hF hD
        have := HEX.out
        go_simp
      · refine chain_beside _ (.inl rfl) ⟨_, rfl⟩ (by kernel_rfl) rfl ?_
        intro a W kst l0 h0 A0 hF hD
        have e55 : a.tmps[55]?.getD undef = .string d := (ev a 55).symm.trans (hD _ (Array.mem_of_getElem? (i := 0) rfl) rfl)
        clear hF hD
        refine ⟨_, _, by (go_simp; first | done | rfl | exact ⟨rfl, rfl⟩), ?_⟩
        refine (clone_any d _ (by have := HDZ.out; omega)).mono ?_
        rintro e wq ⟨rfl, hu⟩
        exact ⟨rfl, glA_keep A0 hu⟩
      · refine chain_is _ (.inl rfl) ⟨_, rfl⟩ (by kernel_rfl) rfl ?_
        intro a W kst l0 h0 A0 hF hD
        have e48 : a.tmps[48]?.getD undef = .int .i64 k4 := (ev a 48).symm.trans (hD _ (Array.mem_of_getElem? (i := 0) rfl) rfl)
        have e50 : a.tmps[50]?.getD undef = .int .i64 k6 := (ev a 50).symm.trans (hD _ (Array.mem_of_getElem? (i := 1) rfl) rfl)
        have e51 : a.tmps[51]?.getD undef = .bool false := (ev a 51).symm.trans (hD _ (Array.mem_of_getElem? (i := 2) rfl) rfl)
        have e56 : a.tmps[56]?.getD undef = .string d := (ev a 56).symm.trans (hD _ (Array.mem_of_getElem? (i := 3) rfl) rfl)
        clear hF hD
        go_simp
      · refine chain_run (.inl rfl) ⟨_, rfl⟩ (by kernel_rfl) ?_
        intro a W kst l0 h0 A0 hF hD
        have k0 : kst = 0 := Nat.le_antisymm h0 l0
        subst k0
        clear l0 h0
        clear hF hD
        have hu : Upd [] wz W := A0
        exact ⟨.pointer (some ⟨W.heap.size, 0, none⟩), W.alloc (.cells #[.int .i64 0, .int .i64 0, .bool false, .int .i64 0, .int .i64 0, .string ⟨#[]⟩] 26), by go_simp, trivial, hu.alloc _, W.heap.size, hu.size, rfl, Blk.new _ _ _⟩
      · refine chain_set (.inl rfl) rfl (by kernel_rfl) trivial ?_
        intro a W kst l0 h0 A0 hF hD
        have k0 : kst = 1 := Nat.le_antisymm h0 l0
        subst k0
        clear l0 h0
        have e57 : a.tmps[57]?.getD undef = .agg #[.int .i64 k4, .int .i64 k6, .bool false, .int .i64 0, .int .i64 0, .string d] := (ev a 57).symm.trans (hD _ (Array.mem_of_getElem? (i := 1) rfl) rfl)
        clear hF hD
        obtain ⟨hu, g, hg1, hg2, hg3⟩ := A0
        have e7 : a.tmps[7]?.getD undef = _ := (ev a 7).symm.trans hg2
        have f0 := hg3.frozen 0
        have f1 := hg3.frozen 1
        have f2 := hg3.frozen 2
        have f3 := hg3.frozen 3
        have f4 := hg3.frozen 4
        have f5 := hg3.frozen 5
        have c0 := hg3.cell 0
        have c1 := hg3.cell 1
        have c2 := hg3.cell 2
        have c3 := hg3.cell 3
        have c4 := hg3.cell 4
        have c5 := hg3.cell 5
        simp at c0 c1 c2 c3 c4 c5
        exact ⟨(((((W.setCell ⟨g, 0, none⟩ (.int .i64 k4)).setCell ⟨g, 1, none⟩ (.int .i64 k6)).setCell ⟨g, 2, none⟩ (.bool false)).setCell ⟨g, 3, none⟩ (.int .i64 0)).setCell ⟨g, 4, none⟩ (.int .i64 0)).setCell ⟨g, 5, none⟩ (.string d), by (go_simp; first | done | rfl | exact ⟨rfl, rfl⟩), (((((hu.setCell _ (.inr hg1)).setCell _ (.inr hg1)).setCell _ (.inr hg1)).setCell _ (.inr hg1)).setCell _ (.inr hg1)).setCell _ (.inr hg1), g, hg1, hg2, (((((hg3.set_ 0 _).set_ 1 _).set_ 2 _).set_ 3 _).set_ 4 _).set_ 5 _⟩
    intro vals W hv hA
    have v0 : vals 0 = .string b := hv 0 (by decide)
    have v1 : vals 1 = .int .i64 k4 := hv 1 (by decide)
    have v2 : vals 2 = .string b := hv 2 (by decide)
    have v3 : vals 3 = .int .i64 k6 := hv 3 (by decide)
    have v4 : vals 4 = .bool false := hv 4 (by decide)
    have v5 : vals 5 = .string b := hv 5 (by decide)
    have v6 : vals 6 = .int .i64 8 := hv 6 (by decide)
    have v7 : vals 7 = .int .i64 n := hv 7 (by decide)
    have v8 : vals 8 = .string d := hv 8 (by decide)
    have v9 : vals 9 = .string d := hv 9 (by decide)
    have v10 : vals 10 = .agg #[.int .i64 k4, .int .i64 k6, .bool false, .int .i64 0, .int .i64 0, .string d] := hv 10 (by decide)
    clear hv
    obtain ⟨hu, g, hg1, hv11, hg3⟩ := hA
    have v11 : vals 11 = .pointer (some ⟨g, 0, none⟩) := hv11
    simp only [putAll, Act.put, Nat.zero_add, Nat.reduceAdd, v11, v0, v1, v2, v3, v4, v5, v6, v7, v8, v9, v10, List.setIfInBounds_toArray, List.set_cons_zero, List.set_cons_succ]
    clear v0 v1 v2 v3 v4 v5 v6 v7 v8 v9 v10
    have B7 := Lib.hid hg3
    have UW : Hid (Upd [] w W) := U2.out.trans hu
    have BR := Lib.hid (B2.out.upd hu (by simp))
    have hgw : w.heap.size < g := by omega
    have lg : g < W.heap.size := hg3.lt
    have lw : w.heap.size < W.heap.size := BR.out.lt
    clear hu hv11 v11 hg3
    have f0 := B7.out.frozen 0
    have f1 := B7.out.frozen 1
    have f2 := B7.out.frozen 2
    have f3 := B7.out.frozen 3
    have f4 := B7.out.frozen 4
    have f5 := B7.out.frozen 5
    have c0 := B7.out.cell 0
    have c1 := B7.out.cell 1
    have c2 := B7.out.cell 2
    have c3 := B7.out.cell 3
    have c4 := B7.out.cell 4
    have c5 := B7.out.cell 5
    simp at c0 c1 c2 c3 c4 c5
    have k0 := BR.out.frozen 0
    have k1 := BR.out.frozen 1
    have k2 := BR.out.frozen 2
    have k3 := BR.out.frozen 3
    have k4 := BR.out.frozen 4
    have k5 := BR.out.frozen 5
    have d0 := BR.out.cell 0
    have d1 := BR.out.cell 1
    have d2 := BR.out.cell 2
    have d3 := BR.out.cell 3
    have d4 := BR.out.cell 4
    have d5 := BR.out.cell 5
    simp at d0 d1 d2 d3 d4 d5
    go_wp2_with fail
    clear f0 f1 f2 f3 f4 f5 c0 c1 c2 c3 c4 c5 k0 k1 k2 k3 k4 k5 d0 d1 d2 d3 d4 d5
    have RR := ((((((BR.out.set_ 0 (.int .i64 k4)).set_ 1 (.int .i64 k6)).set_ 2 (.bool false)).set_ 3 (.int .i64 0)).set_ 4 (.int .i64 0)).set_ 5 (.string d))
    have c0 := RR.cell 0
    have c1 := RR.cell 1
    have c2 := RR.cell 2
    have c3 := RR.cell 3
    have c4 := RR.cell 4
    have c5 := RR.cell 5
    simp at c0 c1 c2 c3 c4 c5
    have UU := (((((UW.out.setCell (p := ⟨w.heap.size, 0, none⟩) (.int .i64 k4) (.inr (Nat.le_refl _))).setCell (p := ⟨w.heap.size, 1, none⟩) (.int .i64 k6) (.inr (Nat.le_refl _))).setCell (p := ⟨w.heap.size, 2, none⟩) (.bool false) (.inr (Nat.le_refl _))).setCell (p := ⟨w.heap.size, 3, none⟩) (.int .i64 0) (.inr (Nat.le_refl _))).setCell (p := ⟨w.heap.size, 4, none⟩) (.int .i64 0) (.inr (Nat.le_refl _))).setCell (p := ⟨w.heap.size, 5, none⟩) (.string d) (.inr (Nat.le_refl _))
    exact bodyPost_ret (v := .tuple #[.agg #[.int .i64 k4, .int .i64 k6, .bool false, .int .i64 0, .int .i64 0, .string d], .int .i64 0]) (by simp [results, Tryz.results29, go_sem, c0, c1, c2, c3, c4, c5]) rfl ⟨rfl, UU⟩
  · have ha : (bits .and .u8 y0 8 != 0) = true := by rw [hy]; decide
    subst hy
    by_cases t4 : (b.size : Int) < n
    · have hr := HR2.out
      rw [if_pos t4] at hr
      subst hr
      clear HR2
      simp only [Ld.zero, Ld.agg]
      go_enter Tryz.func29, Tryz.ntmps29
      go_wp2_with fail
      refine (HN2.out _).mono ?_
      rintro e w1 ⟨rfl, rfl⟩
      go_wp2_with fail
      exact bodyPost_ret (v := .tuple #[.agg #[.int .i64 0, .int .i64 0, .bool false, .int .i64 0, .int .i64 0, .string ⟨#[]⟩], .int .i64 5]) (by simp [results, Tryz.results29, go_sem]) rfl ⟨rfl, (by repeat (first | refine Upd.setCell _ ?_ (.inr (by simp)) | refine Upd.alloc _ ?_ | exact Upd.refl _ _))⟩
    have HR3 : Hid (_ = R) := (if_neg t4).symm.trans HR2.out
    clear HR2
    by_cases t5 : (n : Int) < 12
    · have t5' : (n : Int) < (if (72 : Int) = 72 then 12 else 8) := t5
      have hr := HR3.out
      rw [if_pos t5'] at hr
      subst hr
      clear HR3
      simp only [Ld.zero, Ld.agg]
      clear t5'
      go_enter Tryz.func29, Tryz.ntmps29
      go_wp2_with fail
      refine (HN2.out _).mono ?_
      rintro e w1 ⟨rfl, rfl⟩
      go_wp2_with fail
      exact bodyPost_ret (v := .tuple #[.agg #[.int .i64 0, .int .i64 0, .bool false, .int .i64 0, .int .i64 0, .string ⟨#[]⟩], .int .i64 4]) (by simp [results, Tryz.results29, go_sem]) rfl ⟨rfl, (by repeat (first | refine Upd.setCell _ ?_ (.inr (by simp)) | refine Upd.alloc _ ?_ | exact Upd.refl _ _))⟩
    have t5' : ¬ (n : Int) < (if (72 : Int) = 72 then 12 else 8) := t5
    have HR4 : Hid (_ = R) := (if_neg t5').symm.trans HR3.out
    clear HR3 t5'
    by_cases t6 : 1460 < (n : Int) - 12
    · have t6' : 1460 < (n : Int) - (if (72 : Int) = 72 then 12 else 8) := t6
      have hr := HR4.out
      rw [if_pos t6'] at hr
      subst hr
      clear HR4
      simp only [Ld.zero, Ld.agg]
      clear t6'
      go_enter Tryz.func29, Tryz.ntmps29
      go_wp2_with fail
      refine (HN2.out _).mono ?_
      rintro e w1 ⟨rfl, rfl⟩
      go_wp2_with fail
      exact bodyPost_ret (v := .tuple #[.agg #[.int .i64 0, .int .i64 0, .bool false, .int .i64 0, .int .i64 0, .string ⟨#[]⟩], .int .i64 2]) (by simp [results, Tryz.results29, go_sem]) rfl ⟨rfl, (by repeat (first | refine Upd.setCell _ ?_ (.inr (by simp)) | refine Upd.alloc _ ?_ | exact Upd.refl _ _))⟩
    have t6' : ¬ 1460 < (n : Int) - (if (72 : Int) = 72 then 12 else 8) := t6
    have HR5 : Hid (_ = R) := (if_neg t6').symm.trans HR4.out
    clear HR4 t6'
    have hr := HR5.out
    rw [if_pos rfl] at hr
    subst hr
    clear HR5
    obtain ⟨d, hd⟩ : ∃ d, b.extract 12 n = d := ⟨_, rfl⟩
    have hdz : d.size ≤ 1460 := by rw [← hd, ByteArray.size_extract]; omega
    have HEX := Lib.hid hd
    have HDZ := Lib.hid hdz
    rw [hd]
    have B2 : Hid (Blk (w.alloc (.cells #[.int .i64 0, .int .i64 0, .bool false, .int .i64 0, .int .i64 0, .string ⟨#[]⟩] 26)) w.heap.size 26 #[.int .i64 0, .int .i64 0, .bool false, .int .i64 0, .int .i64 0, .string ⟨#[]⟩]) := Blk.new _ _ _
    have U2 : Hid (Upd [] w (w.alloc (.cells #[.int .i64 0, .int .i64 0, .bool false, .int .i64 0, .int .i64 0, .string ⟨#[]⟩] 26))) := (Upd.refl _ _).alloc _
    replace HN8 := HN8 (by omega)
    replace HN10 := HN10 (by omega)
    clear hd hdz
    simp only [Ld.agg]
    generalize num b 4 2 = k4 at *
    generalize num b 6 2 = k6 at *
    generalize num b 8 2 = k8 at *
    generalize num b 10 2 = k10 at *
    go_enter Tryz.func29, Tryz.ntmps29
    go_wp2_with fail
    refine (HN2.out _).mono ?_
    rintro e w1 ⟨rfl, rfl⟩
    go_wp2_with fail
    generalize w.alloc (.cells #[.int .i64 0, .int .i64 0, .bool false, .int .i64 0, .int .i64 0, .string ⟨#[]⟩] 26) = wz at *
    have hpz : w.heap.size < wz.heap.size := B2.out.lt
    refine wp_region_chain [some (.string b), some (.int .i64 k4), some (.string b), some (.int .i64 k6), some (.bool true), some (.string b), some (.int .i64 12), some (.int .i64 n), some (.string d), some (.string d), some (.agg #[.int .i64 k4, .int .i64 k6, .bool true, .int .i64 0, .int .i64 0, .string d]), none, none] [11,12] (glA wz #[.int .i64 k4, .int .i64 k6, .bool true, .int .i64 0, .int .i64 0, .string d]) [(0, 1), (0, 1), (0, 1), (0, 1), (0, 1), (0, 1), (0, 1), (0, 1), (0, 1), (0, 1), (0, 1), (0, 0), (1, 1)] (by kernel_rfl) (by kernel_rfl) (by kernel_rfl) (by kernel_rfl) (by kernel_rfl) (by kernel_rfl) ((Upd.refl _ _).drew) ?_ ?_
    · refine StepsC.cons ?_ (StepsC.cons ?_ (StepsC.cons ?_ (StepsC.cons ?_ (StepsC.cons ?_ (StepsC.cons ?_ (StepsC.cons ?_ (StepsC.cons ?_ (StepsC.cons ?_ (StepsC.cons ?_ (StepsC.cons ?_ (StepsC.cons ?_ (StepsC.cons ?_ StepsC.nil))))))))))))
      · refine chain_is _ (.inl rfl) ⟨_, rfl⟩ (by kernel_rfl) rfl ?_
        intro a W kst l0 h0 A0 hF hD
        have e0 : a.tmps[0]?.getD undef = _ := (ev a 0).symm.trans (hF 0 (by kernel_rfl))
        clear hF hD
        go_simp
      · refine chain_beside _ (.inl rfl) ⟨_, rfl⟩ (by kernel_rfl) rfl ?_
        intro a W kst l0 h0 A0 hF hD
        have e47 : a.tmps[47]?.getD undef = .string b := (ev a 47).symm.trans (hD _ (Array.mem_of_getElem? (i := 0) rfl) rfl)
        clear hF hD
        refine ⟨_, _, by (go_simp; first | done | rfl | exact ⟨rfl, rfl⟩), ?_⟩
        refine (HN4.out _).mono ?_
        rintro e wq ⟨rfl, rfl⟩
        exact ⟨rfl, A0⟩
      · refine chain_is _ (.inl rfl) ⟨_, rfl⟩ (by kernel_rfl) rfl ?_
        intro a W kst l0 h0 A0 hF hD
        have e0 : a.tmps[0]?.getD undef = _ := (ev a 0).symm.trans (hF 0 (by kernel_rfl))
        clear hF hD
        go_simp
      · refine chain_beside _ (.inl rfl) ⟨_, rfl⟩ (by kernel_rfl) rfl ?_
        intro a W kst l0 h0 A0 hF hD
        have e49 : a.tmps[49]?.getD undef = .string b := (ev a 49).symm.trans (hD _ (Array.mem_of_getElem? (i := 0) rfl) rfl)
        clear hF hD
        refine ⟨_, _, by (go_simp; first | done | rfl | exact ⟨rfl, rfl⟩), ?_⟩
        refine (HN6.out _).mono ?_
        rintro e wq ⟨rfl, rfl⟩
        exact ⟨rfl, A0⟩
      · refine chain_is _ (.inl rfl) ⟨_, rfl⟩ (by kernel_rfl) rfl ?_
        intro a W kst l0 h0 A0 hF hD
        have e4 : a.tmps[4]?.getD undef = _ := (ev a 4).symm.trans (hF 4 (by kernel_rfl))
        clear hF hD
        go_simp
      · refine chain_is _ (.inl rfl) ⟨_, rfl⟩ (by kernel_rfl) rfl ?_
        intro a W kst l0 h0 A0 hF hD
        have e0 : a.tmps[0]?.getD undef = _ := (ev a 0).symm.trans (hF 0 (by kernel_rfl))
        clear hF hD
        go_simp
      · refine chain_is _ (.inl rfl) ⟨_, rfl⟩ (by kernel_rfl) rfl ?_
        intro a W kst l0 h0 A0 hF hD
        have e5 : a.tmps[5]?.getD undef = _ := (ev a 5).symm.trans (hF 5 (by kernel_rfl))
        clear hF hD
        go_simp
      · refine chain_is _ (.inl rfl) ⟨_, rfl⟩ (by kernel_rfl) rfl ?_
        intro a W kst l0 h0 A0 hF hD
        have e6 : a.tmps[6]?.getD undef = _ := (ev a 6).symm.trans (hF 6 (by kernel_rfl))
        clear hF hD
        go_simp
      · refine chain_is _ (.inl rfl) ⟨_, rfl⟩ (by kernel_rfl) rfl ?_
        intro a W kst l0 h0 A0 hF hD
        have e52 : a.tmps[52]?.getD undef = .string b := (ev a 52).symm.trans (hD _ (Array.mem_of_getElem? (i := 0) rfl) rfl)
        have e53 : a.tmps[53]?.getD undef = .int .i64 12 := (ev a 53).symm.trans (hD _ (Array.mem_of_getElem? (i := 1) rfl) rfl)
        have e54 : a.tmps[54]?.getD undef = .int .i64 n := (ev a 54).symm.trans (hD _ (Array.mem_of_getElem? (i := 2) rfl) rfl)
        clear hF hD
        have := HEX.out
        go_simp
      · refine chain_beside _ (.inl rfl) ⟨_, rfl⟩ (by kernel_rfl) rfl ?_
        intro a W kst l0 h0 A0 hF hD
        have e55 : a.tmps[55]?.getD undef = .string d := (ev a 55).symm.trans (hD _ (Array.mem_of_getElem? (i := 0) rfl) rfl)
        clear hF hD
        refine ⟨_, _, by (go_simp; first | done | rfl | exact ⟨rfl, rfl⟩), ?_⟩
        refine (clone_any d _ (by have := HDZ.out; omega)).mono ?_
        rintro e wq ⟨rfl, hu⟩
        exact ⟨rfl, glA_keep A0 hu⟩
      · refine chain_is _ (.inl rfl) ⟨_, rfl⟩ (by kernel_rfl) rfl ?_
        intro a W kst l0 h0 A0 hF hD
        have e48 : a.tmps[48]?.getD undef = .int .i64 k4 := (ev a 48).symm.trans (hD _ (Array.mem_of_getElem? (i := 0) rfl) rfl)
        have e50 : a.tmps[50]?.getD undef = .int .i64 k6 := (ev a 50).symm.trans (hD _ (Array.mem_of_getElem? (i := 1) rfl) rfl)
        have e51 : a.tmps[51]?.getD undef = .bool true := (ev a 51).symm.trans (hD _ (Array.mem_of_getElem? (i := 2) rfl) rfl)
        have e56 : a.tmps[56]?.getD undef = .string d := (ev a 56).symm.trans (hD _ (Array.mem_of_getElem? (i := 3) rfl) rfl)
        clear hF hD
        go_simp
      · refine chain_run (.inl rfl) ⟨_, rfl⟩ (by kernel_rfl) ?_
        intro a W kst l0 h0 A0 hF hD
        have k0 : kst = 0 := Nat.le_antisymm h0 l0
        subst k0
        clear l0 h0
        clear hF hD
        have hu : Upd [] wz W := A0
        exact ⟨.pointer (some ⟨W.heap.size, 0, none⟩), W.alloc (.cells #[.int .i64 0, .int .i64 0, .bool false, .int .i64 0, .int .i64 0, .string ⟨#[]⟩] 26), by go_simp, trivial, hu.alloc _, W.heap.size, hu.size, rfl, Blk.new _ _ _⟩
      · refine chain_set (.inl rfl) rfl (by kernel_rfl) trivial ?_
        intro a W kst l0 h0 A0 hF hD
        have k0 : kst = 1 := Nat.le_antisymm h0 l0
        subst k0
        clear l0 h0
        have e57 : a.tmps[57]?.getD undef = .agg #[.int .i64 k4, .int .i64 k6, .bool true, .int .i64 0, .int .i64 0, .string d] := (ev a 57).symm.trans (hD _ (Array.mem_of_getElem? (i := 1) rfl) rfl)
        clear hF hD
        obtain ⟨hu, g, hg1, hg2, hg3⟩ := A0
        have e7 : a.tmps[7]?.getD undef = _ := (ev a 7).symm.trans hg2
        have f0 := hg3.frozen 0
        have f1 := hg3.frozen 1
        have f2 := hg3.frozen 2
        have f3 := hg3.frozen 3
        have f4 := hg3.frozen 4
        have f5 := hg3.frozen 5
        have c0 := hg3.cell 0
        have c1 := hg3.cell 1
        have c2 := hg3.cell 2
        have c3 := hg3.cell 3
        have c4 := hg3.cell 4
        have c5 := hg3.cell 5
        simp at c0 c1 c2 c3 c4 c5
        exact ⟨(((((W.setCell ⟨g, 0, none⟩ (.int .i64 k4)).setCell ⟨g, 1, none⟩ (.int .i64 k6)).setCell ⟨g, 2, none⟩ (.bool true)).setCell ⟨g, 3, none⟩ (.int .i64 0)).setCell ⟨g, 4, none⟩ (.int .i64 0)).setCell ⟨g, 5, none⟩ (.string d), by (go_simp; first | done | rfl | exact ⟨rfl, rfl⟩), (((((hu.setCell _ (.inr hg1)).setCell _ (.inr hg1)).setCell _ (.inr hg1)).setCell _ (.inr hg1)).setCell _ (.inr hg1)).setCell _ (.inr hg1), g, hg1, hg2, (((((hg3.set_ 0 _).set_ 1 _).set_ 2 _).set_ 3 _).set_ 4 _).set_ 5 _⟩
    intro vals W hv hA
    have v0 : vals 0 = .string b := hv 0 (by decide)
    have v1 : vals 1 = .int .i64 k4 := hv 1 (by decide)
    have v2 : vals 2 = .string b := hv 2 (by decide)
    have v3 : vals 3 = .int .i64 k6 := hv 3 (by decide)
    have v4 : vals 4 = .bool true := hv 4 (by decide)
    have v5 : vals 5 = .string b := hv 5 (by decide)
    have v6 : vals 6 = .int .i64 12 := hv 6 (by decide)
    have v7 : vals 7 = .int .i64 n := hv 7 (by decide)
    have v8 : vals 8 = .string d := hv 8 (by decide)
    have v9 : vals 9 = .string d := hv 9 (by decide)
    have v10 : vals 10 = .agg #[.int .i64 k4, .int .i64 k6, .bool true, .int .i64 0, .int .i64 0, .string d] := hv 10 (by decide)
    clear hv
    obtain ⟨hu, g, hg1, hv11, hg3⟩ := hA
    have v11 : vals 11 = .pointer (some ⟨g, 0, none⟩) := hv11
    simp only [putAll, Act.put, Nat.zero_add, Nat.reduceAdd, v11, v0, v1, v2, v3, v4, v5, v6, v7, v8, v9, v10, List.setIfInBounds_toArray, List.set_cons_zero, List.set_cons_succ]
    clear v0 v1 v2 v3 v4 v5 v6 v7 v8 v9 v10
    have B7 := Lib.hid hg3
    have UW : Hid (Upd [] w W) := U2.out.trans hu
    have BR := Lib.hid (B2.out.upd hu (by simp))
    have hgw : w.heap.size < g := by omega
    have lg : g < W.heap.size := hg3.lt
    have lw : w.heap.size < W.heap.size := BR.out.lt
    clear hu hv11 v11 hg3
    go_wp2_with fail
    refine (HN8.out _).mono ?_
    rintro e w2 ⟨rfl, rfl⟩
    go_wp2_with fail
    refine (HN10.out _).mono ?_
    rintro e w2 ⟨rfl, rfl⟩
    have f0 := B7.out.frozen 0
    have f1 := B7.out.frozen 1
    have f2 := B7.out.frozen 2
    have f3 := B7.out.frozen 3
    have f4 := B7.out.frozen 4
    have f5 := B7.out.frozen 5
    have c0 := B7.out.cell 0
    have c1 := B7.out.cell 1
    have c2 := B7.out.cell 2
    have c3 := B7.out.cell 3
    have c4 := B7.out.cell 4
    have c5 := B7.out.cell 5
    simp at c0 c1 c2 c3 c4 c5
    have k0 := BR.out.frozen 0
    have k1 := BR.out.frozen 1
    have k2 := BR.out.frozen 2
    have k3 := BR.out.frozen 3
    have k4 := BR.out.frozen 4
    have k5 := BR.out.frozen 5
    have d0 := BR.out.cell 0
    have d1 := BR.out.cell 1
    have d2 := BR.out.cell 2
    have d3 := BR.out.cell 3
    have d4 := BR.out.cell 4
    have d5 := BR.out.cell 5
    simp at d0 d1 d2 d3 d4 d5
    go_wp2_with fail
    clear f0 f1 f2 f3 f4 f5 c0 c1 c2 c3 c4 c5 k0 k1 k2 k3 k4 k5 d0 d1 d2 d3 d4 d5
    have RR := ((((((((BR.out.far (p := ⟨g, 3, none⟩) (.int .i64 k8) (by simp; omega)).far (p := ⟨g, 4, none⟩) (.int .i64 k10) (by simp; omega)).set_ 0 (.int .i64 k4)).set_ 1 (.int .i64 k6)).set_ 2 (.bool true)).set_ 3 (.int .i64 k8)).set_ 4 (.int .i64 k10)).set_ 5 (.string d))
    have c0 := RR.cell 0
    have c1 := RR.cell 1
    have c2 := RR.cell 2
    have c3 := RR.cell 3
    have c4 := RR.cell 4
    have c5 := RR.cell 5
    simp at c0 c1 c2 c3 c4 c5
    have UU := (((((((UW.out.setCell (p := ⟨g, 3, none⟩) (.int .i64 k8) (.inr (by simp; omega))).setCell (p := ⟨g, 4, none⟩) (.int .i64 k10) (.inr (by simp; omega))).setCell (p := ⟨w.heap.size, 0, none⟩) (.int .i64 k4) (.inr (Nat.le_refl _))).setCell (p := ⟨w.heap.size, 1, none⟩) (.int .i64 k6) (.inr (Nat.le_refl _))).setCell (p := ⟨w.heap.size, 2, none⟩) (.bool true) (.inr (Nat.le_refl _))).setCell (p := ⟨w.heap.size, 3, none⟩) (.int .i64 k8) (.inr (Nat.le_refl _))).setCell (p := ⟨w.heap.size, 4, none⟩) (.int .i64 k10) (.inr (Nat.le_refl _))).setCell (p := ⟨w.heap.size, 5, none⟩) (.string d) (.inr (Nat.le_refl _))
    exact bodyPost_ret (v := .tuple #[.agg #[.int .i64 k4, .int .i64 k6, .bool true, .int .i64 k8, .int .i64 k10, .string d], .int .i64 0]) (by simp [results, Tryz.results29, go_sem, c0, c1, c2, c3, c4, c5]) rfl ⟨rfl, UU⟩
end Go.Proofs.YtglafpdealjlnaaGreat
namespace Go.Proofs.YtglafpdealjlnaaGreat
open Go.RowKit
set_option linter.unusedSimpArgs false
set_option linter.unusedVariables false
set_option maxRecDepth 100000

def Ld.bad (l : Ld) : Bool := [l.tunnel, l.session, l.ns, l.nr].any (fun n => decide (n < 0) || decide (65535 < n)) || (!l.seq && (!decide (l.ns = 0) || !decide (l.nr = 0)))
def Ld.bytes (l : Ld) : ByteArray :=
  if l.seq = true then strOfNums [72, 2] ++ wordsOf [(l.data.size : Int) + 12, l.tunnel, l.session, l.ns, l.nr] ⟨#[]⟩ ++ l.data
  else strOfNums [64, 2] ++ wordsOf [(l.data.size : Int) + 8, l.tunnel, l.session] ⟨#[]⟩ ++ l.data
def Ld.put (l : Ld) : ByteArray × Int := if l.bad = true then (⟨#[]⟩, 1) else if 1460 < l.data.size then (⟨#[]⟩, 2) else (l.bytes, 0)
theorem wordsOfI_size (l : List Int) (s : ByteArray) : (wordsOf l s).size = s.size + 2 * l.length := by
  induction l generalizing s with
  | nil => rfl
  | cons n l ih => rw [wordsOf, ih, ByteArray.size_append, be_size, List.length_cons]; omega
set_option maxHeartbeats 600000 in
theorem putLoad_seq (t s ns nr : Int) (b : ByteArray) (h : (0 ≤ t ∧ t < 65536) ∧ (0 ≤ s ∧ s < 65536) ∧ (0 ≤ ns ∧ ns < 65536) ∧ (0 ≤ nr ∧ nr < 65536)) (hb : b.size ≤ maxLen) (w : World) :
    Calls Tryz.prog 27 #[(⟨t, s, true, ns, nr, b⟩ : Ld).agg] w fun e w' => e = .returned (.tuple #[.string (⟨t, s, true, ns, nr, b⟩ : Ld).put.1, .int .i64 (⟨t, s, true, ns, nr, b⟩ : Ld).put.2]) ∧ Upd [] w w' := by
  simp only [maxLen] at hb
  obtain ⟨A, hA⟩ : ∃ A, A = Obj.cells #[.int .i64 t, .int .i64 s, .bool true, .int .i64 ns, .int .i64 nr, .string b] 26 := ⟨_, rfl⟩
  have A0 : Blk (w.alloc A) w.heap.size 26 #[.int .i64 t, .int .i64 s, .bool true, .int .i64 ns, .int .i64 nr, .string b] := by rw [hA]; exact Blk.new _ _ _
  have U0 : Hid (Upd [] w (w.alloc A)) := (Upd.refl [] w).alloc A
  have HH := Lib.hid h
  have HBAD : Hid ((⟨t, s, true, ns, nr, b⟩ : Ld).bad = false) := by
    show _ = _
    have := HH.out
    simp only [Ld.bad]
    simp
    omega
  have HW0 : Hid (([t, s, ns, nr] : List Int).any overWord = false) := by
    show _ = _
    have := HH.out
    simp [overWord]
    omega
  have HI : Hid (∀ W : World, IntsAt (W.alloc (.cells #[.int .i64 t, .int .i64 s, .int .i64 ns, .int .i64 nr] 3)) (.slice (some ⟨W.heap.size, 0, none⟩) 4 4) [t, s, ns, nr]) := fun W => IntsAt.of_blk (l := [t, s, ns, nr]) (Blk.new _ _ _) (by simp [maxLen])
  have HC : Hid (∀ W, Upd [] (w.alloc A) W → W.cell? ⟨w.heap.size, 0, none⟩ = some (.int .i64 t) ∧ W.cell? ⟨w.heap.size, 1, none⟩ = some (.int .i64 s) ∧ W.cell? ⟨w.heap.size, 2, none⟩ = some (.bool true) ∧ W.cell? ⟨w.heap.size, 3, none⟩ = some (.int .i64 ns) ∧ W.cell? ⟨w.heap.size, 4, none⟩ = some (.int .i64 nr) ∧ W.cell? ⟨w.heap.size, 5, none⟩ = some (.string b)) := fun W hu =>
    ⟨(A0.upd hu (by simp)).cell 0, (A0.upd hu (by simp)).cell 1, (A0.upd hu (by simp)).cell 2, (A0.upd hu (by simp)).cell 3, (A0.upd hu (by simp)).cell 4, (A0.upd hu (by simp)).cell 5⟩
  have HA := Lib.hid hA
  clear hA A0 h
  by_cases t1 : 1460 < b.size
  · have t1' : (1460 : Int) < b.size := by omega
    have HQ : Hid ((⟨t, s, true, ns, nr, b⟩ : Ld).put = (⟨#[]⟩, 2)) := by show _ = _; rw [Ld.put, HBAD.out, if_neg (by simp), if_pos t1]
    rw [HQ.out]
    clear HQ HBAD
    have hc := HC.out _ (Upd.refl [] (w.alloc A))
    have hI := HI.out (w.alloc A)
    rw [show (w.alloc A).heap.size = w.heap.size + 1 by simp] at hI
    go_enter Tryz.func27, Tryz.ntmps27
    simp only [Ld.agg]
    go_wp2_with fail
    rw [← HA.out]
    clear HA
    generalize w.alloc A = wA at *
    go_wp2_with fail
    refine (words_any [t, s, ns, nr] _ _ hI).mono ?_
    rintro e w1 ⟨rfl, hu1⟩
    have HU1 : Hid (Upd [] wA w1) := ((Upd.refl _ _).alloc _).trans hu1
    clear hu1 hc
    rw [HW0.out]
    have hc := HC.out _ HU1.out
    simp only [Bool.not_false]
    go_wp2_with fail
    go_ret2
    exact ⟨rfl, U0.out.trans HU1.out⟩
  have t1' : ¬ (1460 : Int) < b.size := by omega
  obtain ⟨ws, hws⟩ : ∃ ws, ws = wordsOf [(b.size : Int) + 12, t, s, ns, nr] ⟨#[]⟩ := ⟨_, rfl⟩
  have hwz : ws.size = 10 := by rw [hws, wordsOfI_size]; rfl
  have HW : Hid (∀ (u : Value) (W : World), IntsAt W u [(b.size : Int) + 12, t, s, ns, nr] → Calls Tryz.prog 99 #[u] W fun e w' => e = .returned (.string ws) ∧ Upd [] W w') := by
    intro u W hu
    rw [hws]
    refine msgPut_any _ u W hu ?_ (by simp)
    intro n hn
    have := HH.out
    simp only [List.mem_cons, List.not_mem_nil, or_false] at hn
    rcases hn with rfl | rfl | rfl | rfl | rfl <;> omega
  have HQ : Hid ((⟨t, s, true, ns, nr, b⟩ : Ld).put = (strOfNums [72, 2] ++ ws ++ b, 0)) := by show _ = _; rw [Ld.put, HBAD.out, if_neg (by simp), if_neg t1, hws]; rfl
  rw [HQ.out]
  clear HQ HBAD hws
  have hc := HC.out _ (Upd.refl [] (w.alloc A))
  have hI := HI.out (w.alloc A)
  rw [show (w.alloc A).heap.size = w.heap.size + 1 by simp] at hI
  go_enter Tryz.func27, Tryz.ntmps27
  simp only [Ld.agg]
  go_wp2_with fail
  rw [← HA.out]
  clear HA
  generalize w.alloc A = wA at *
  go_wp2_with fail
  refine (words_any [t, s, ns, nr] _ _ hI).mono ?_
  rintro e w1 ⟨rfl, hu1⟩
  have HU1 : Hid (Upd [] wA w1) := ((Upd.refl _ _).alloc _).trans hu1
  clear hu1 hc
  rw [HW0.out]
  have hc := HC.out _ HU1.out
  simp only [Bool.not_false]
  go_wp2_with fail
  clear hc
  have hcells : ∀ W, Upd [] w1 W → _ := fun W hu => HC.out W (HU1.out.trans hu)
  refine wp_region_facts (.pure) (trivial) [.made (0) (by simp [Env.pure]) 2 5 #[.int .u8 72, .int .u8 2], .is (.string (strOfNums [72, 2])), .is (.pointer (some ⟨w.heap.size, 5, none⟩)), .is (.string b), .is (.int .i64 b.size), .is (.int .i64 ((b.size : Int) + 12)), .is (.pointer (some ⟨w.heap.size, 0, none⟩)), .is (.int .i64 t), .is (.pointer (some ⟨w.heap.size, 1, none⟩)), .is (.int .i64 s), .is (.pointer (some ⟨w.heap.size, 3, none⟩)), .is (.int .i64 ns), .is (.pointer (some ⟨w.heap.size, 4, none⟩)), .is (.int .i64 nr), .made (0) (by simp [Env.pure]) 5 3 #[.int .i64 ((b.size : Int) + 12), .int .i64 t, .int .i64 s, .int .i64 ns, .int .i64 nr], .is (.string ws), .is (.string (strOfNums [72, 2] ++ ws)), .is (.pointer (some ⟨w.heap.size, 5, none⟩)), .is (.string b), .is (.string (strOfNums [72, 2] ++ ws ++ b)), .is (.string (strOfNums [72, 2] ++ ws ++ b)), .is (.int .i64 0)] (by kernel_rfl) (by kernel_rfl) (by kernel_rfl) (by kernel_rfl) ?_ ?_
  · refine Steps.cons ?_ (Steps.cons ?_ (Steps.cons ?_ (Steps.cons ?_ (Steps.cons ?_ (Steps.cons ?_ (Steps.cons ?_ (Steps.cons ?_ (Steps.cons ?_ (Steps.cons ?_ (Steps.cons ?_ (Steps.cons ?_ (Steps.cons ?_ (Steps.cons ?_ (Steps.cons ?_ (Steps.cons ?_ (Steps.cons ?_ (Steps.cons ?_ (Steps.cons ?_ (Steps.cons ?_ (Steps.cons ?_ (Steps.cons ?_ Steps.nil)))))))))))))))))))))
    · refine step_run rfl (fun _ _ => trivial) ?_
      intro a W hi hF hD
      have hu := hi.upd
      clear hF hD
      have hc := hcells W hu
      exact ⟨_, _, by (go_simp; first | done | rfl | exact ⟨rfl, rfl⟩), (Upd.refl _ _).alloc _, _, Nat.zero_le _, rfl, Blk.new _ _ _⟩
    · refine step_is _ rfl ⟨_, rfl⟩ rfl (fun _ _ => trivial) ?_
      intro a W hi hF hD
      have hu := hi.upd
      obtain ⟨g56, _, e56, b56⟩ : ∃ g, 0 ≤ g ∧ a.eval (.tmp 56) = .slice (some ⟨g, 0, none⟩) 2 2 ∧ Blk W g 5 #[.int .u8 72, .int .u8 2] := (hD _ (Array.mem_of_getElem? (i := 0) rfl) rfl).1
      rw [ev] at e56
      clear hF hD
      have hc := hcells W hu
      have hcv := str2 Tryz.underlying151 Tryz.underlying5 Tryz.underlying9 b56
      go_simp
    · refine step_is _ rfl ⟨_, rfl⟩ rfl (fun _ _ => trivial) ?_
      intro a W hi hF hD
      have hu := hi.upd
      have e1 : a.tmps[1]?.getD undef = _ := (ev a 1).symm.trans (hF 1 (by kernel_rfl))
      clear hF hD
      have hc := hcells W hu
      go_simp
    · refine step_is _ rfl ⟨_, rfl⟩ rfl (fun _ _ => trivial) ?_
      intro a W hi hF hD
      have hu := hi.upd
      have e58 : a.tmps[58]?.getD undef = .pointer (some ⟨w.heap.size, 5, none⟩) := (ev a 58).symm.trans (hD _ (Array.mem_of_getElem? (i := 0) rfl) rfl).1
      clear hF hD
      have hc := hcells W hu
      go_simp
    · refine step_is _ rfl ⟨_, rfl⟩ rfl (fun _ _ => trivial) ?_
      intro a W hi hF hD
      have hu := hi.upd
      have e59 : a.tmps[59]?.getD undef = .string b := (ev a 59).symm.trans (hD _ (Array.mem_of_getElem? (i := 0) rfl) rfl).1
      clear hF hD
      have hc := hcells W hu
      go_simp
    · refine step_is _ rfl ⟨_, rfl⟩ rfl (fun _ _ => trivial) ?_
      intro a W hi hF hD
      have hu := hi.upd
      have e60 : a.tmps[60]?.getD undef = .int .i64 b.size := (ev a 60).symm.trans (hD _ (Array.mem_of_getElem? (i := 0) rfl) rfl).1
      clear hF hD
      have hc := hcells W hu
      go_simp
      exact IntWalk.i64_in ((b.size : Int) + 12) (by omega)
    · refine step_is _ rfl ⟨_, rfl⟩ rfl (fun _ _ => trivial) ?_
      intro a W hi hF hD
      have hu := hi.upd
      have e1 : a.tmps[1]?.getD undef = _ := (ev a 1).symm.trans (hF 1 (by kernel_rfl))
      clear hF hD
      have hc := hcells W hu
      go_simp
    · refine step_is _ rfl ⟨_, rfl⟩ rfl (fun _ _ => trivial) ?_
      intro a W hi hF hD
      have hu := hi.upd
      have e62 : a.tmps[62]?.getD undef = .pointer (some ⟨w.heap.size, 0, none⟩) := (ev a 62).symm.trans (hD _ (Array.mem_of_getElem? (i := 0) rfl) rfl).1
      clear hF hD
      have hc := hcells W hu
      go_simp
    · refine step_is _ rfl ⟨_, rfl⟩ rfl (fun _ _ => trivial) ?_
      intro a W hi hF hD
      have hu := hi.upd
      have e1 : a.tmps[1]?.getD undef = _ := (ev a 1).symm.trans (hF 1 (by kernel_rfl))
      clear hF hD
      have hc := hcells W hu
      go_simp
    · refine step_is _ rfl ⟨_, rfl⟩ rfl (fun _ _ => trivial) ?_
      intro a W hi hF hD
      have hu := hi.upd
      have e64 : a.tmps[64]?.getD undef = .pointer (some ⟨w.heap.size, 1, none⟩) := (ev a 64).symm.trans (hD _ (Array.mem_of_getElem? (i := 0) rfl) rfl).1
      clear hF hD
      have hc := hcells W hu
      go_simp
    · refine step_is _ rfl ⟨_, rfl⟩ rfl (fun _ _ => trivial) ?_
      intro a W hi hF hD
      have hu := hi.upd
      have e1 : a.tmps[1]?.getD undef = _ := (ev a 1).symm.trans (hF 1 (by kernel_rfl))
      clear hF hD
      have hc := hcells W hu
      go_simp
    · refine step_is _ rfl ⟨_, rfl⟩ rfl (fun _ _ => trivial) ?_
      intro a W hi hF hD
      have hu := hi.upd
      have e66 : a.tmps[66]?.getD undef = .pointer (some ⟨w.heap.size, 3, none⟩) := (ev a 66).symm.trans (hD _ (Array.mem_of_getElem? (i := 0) rfl) rfl).1
      clear hF hD
      have hc := hcells W hu
      go_simp
    · refine step_is _ rfl ⟨_, rfl⟩ rfl (fun _ _ => trivial) ?_
      intro a W hi hF hD
      have hu := hi.upd
      have e1 : a.tmps[1]?.getD undef = _ := (ev a 1).symm.trans (hF 1 (by kernel_rfl))
      clear hF hD
      have hc := hcells W hu
      go_simp
    · refine step_is _ rfl ⟨_, rfl⟩ rfl (fun _ _ => trivial) ?_
      intro a W hi hF hD
      have hu := hi.upd
      have e68 : a.tmps[68]?.getD undef = .pointer (some ⟨w.heap.size, 4, none⟩) := (ev a 68).symm.trans (hD _ (Array.mem_of_getElem? (i := 0) rfl) rfl).1
      clear hF hD
      have hc := hcells W hu
      go_simp
    · refine step_run rfl (fun _ _ => trivial) ?_
      intro a W hi hF hD
      have hu := hi.upd
      have e61 : a.tmps[61]?.getD undef = .int .i64 ((b.size : Int) + 12) := (ev a 61).symm.trans (hD _ (Array.mem_of_getElem? (i := 0) rfl) rfl).1
      have e63 : a.tmps[63]?.getD undef = .int .i64 t := (ev a 63).symm.trans (hD _ (Array.mem_of_getElem? (i := 1) rfl) rfl).1
      have e65 : a.tmps[65]?.getD undef = .int .i64 s := (ev a 65).symm.trans (hD _ (Array.mem_of_getElem? (i := 2) rfl) rfl).1
      have e67 : a.tmps[67]?.getD undef = .int .i64 ns := (ev a 67).symm.trans (hD _ (Array.mem_of_getElem? (i := 3) rfl) rfl).1
      have e69 : a.tmps[69]?.getD undef = .int .i64 nr := (ev a 69).symm.trans (hD _ (Array.mem_of_getElem? (i := 4) rfl) rfl).1
      clear hF hD
      have hc := hcells W hu
      exact ⟨_, _, by (go_simp; first | done | rfl | exact ⟨rfl, rfl⟩), (Upd.refl _ _).alloc _, _, Nat.zero_le _, rfl, Blk.new _ _ _⟩
    · refine step_call rfl (fun _ _ => trivial) ?_
      intro a W hi hF hD
      have hu := hi.upd
      obtain ⟨g70, _, e70, b70⟩ : ∃ g, 0 ≤ g ∧ a.eval (.tmp 70) = .slice (some ⟨g, 0, none⟩) 5 5 ∧ Blk W g 3 #[.int .i64 ((b.size : Int) + 12), .int .i64 t, .int .i64 s, .int .i64 ns, .int .i64 nr] := (hD _ (Array.mem_of_getElem? (i := 0) rfl) rfl).1
      rw [ev] at e70
      clear hF hD
      have hc := hcells W hu
      refine ⟨_, _, by (go_simp; first | done | rfl | exact ⟨rfl, rfl⟩), ?_⟩
      refine (HW.out _ _ (IntsAt.of_blk (l := [(b.size : Int) + 12, t, s, ns, nr]) b70 (by simp [maxLen]))).mono ?_
      rintro e w2 ⟨rfl, hu2⟩
      first | exact ⟨_, rfl, hu2, rfl⟩ | (cases hu2; exact ⟨_, rfl, Upd.refl _ _, rfl⟩)
    · refine step_is _ rfl ⟨_, rfl⟩ rfl (fun _ _ => trivial) ?_
      intro a W hi hF hD
      have hu := hi.upd
      have e57 : a.tmps[57]?.getD undef = .string (strOfNums [72, 2]) := (ev a 57).symm.trans (hD _ (Array.mem_of_getElem? (i := 0) rfl) rfl).1
      have e71 : a.tmps[71]?.getD undef = .string ws := (ev a 71).symm.trans (hD _ (Array.mem_of_getElem? (i := 1) rfl) rfl).1
      clear hF hD
      have hc := hcells W hu
      have := run_string_add_sum (P := Tryz.prog) W (strOfNums [72, 2]) ws (by rw [strOfNums_size, hwz]; decide)
      go_simp
    · refine step_is _ rfl ⟨_, rfl⟩ rfl (fun _ _ => trivial) ?_
      intro a W hi hF hD
      have hu := hi.upd
      have e1 : a.tmps[1]?.getD undef = _ := (ev a 1).symm.trans (hF 1 (by kernel_rfl))
      clear hF hD
      have hc := hcells W hu
      go_simp
    · refine step_is _ rfl ⟨_, rfl⟩ rfl (fun _ _ => trivial) ?_
      intro a W hi hF hD
      have hu := hi.upd
      have e73 : a.tmps[73]?.getD undef = .pointer (some ⟨w.heap.size, 5, none⟩) := (ev a 73).symm.trans (hD _ (Array.mem_of_getElem? (i := 0) rfl) rfl).1
      clear hF hD
      have hc := hcells W hu
      go_simp
    · refine step_is _ rfl ⟨_, rfl⟩ rfl (fun _ _ => trivial) ?_
      intro a W hi hF hD
      have hu := hi.upd
      have e72 : a.tmps[72]?.getD undef = .string (strOfNums [72, 2] ++ ws) := (ev a 72).symm.trans (hD _ (Array.mem_of_getElem? (i := 0) rfl) rfl).1
      have e74 : a.tmps[74]?.getD undef = .string b := (ev a 74).symm.trans (hD _ (Array.mem_of_getElem? (i := 1) rfl) rfl).1
      clear hF hD
      have hc := hcells W hu
      have := run_string_add_sum (P := Tryz.prog) W (strOfNums [72, 2] ++ ws) b (by rw [ByteArray.size_append, strOfNums_size, hwz]; simp; omega)
      go_simp
    · refine step_is _ rfl ⟨_, rfl⟩ rfl (fun _ _ => trivial) ?_
      intro a W hi hF hD
      have hu := hi.upd
      have e75 : a.tmps[75]?.getD undef = .string (strOfNums [72, 2] ++ ws ++ b) := (ev a 75).symm.trans (hD _ (Array.mem_of_getElem? (i := 0) rfl) rfl).1
      clear hF hD
      have hc := hcells W hu
      go_simp
    · refine step_is _ rfl ⟨_, rfl⟩ rfl (fun _ _ => trivial) ?_
      intro a W hi hF hD
      have hu := hi.upd
      clear hF hD
      have hc := hcells W hu
      go_simp
  intro vals W hu hv
  obtain ⟨g0, _, v0, b0⟩ : ∃ g, 0 ≤ g ∧ vals 0 = .slice (some ⟨g, 0, none⟩) 2 2 ∧ Blk W g 5 #[.int .u8 72, .int .u8 2] := (hv 0 (by decide)).1
  have v1 : vals 1 = .string (strOfNums [72, 2]) := (hv 1 (by decide)).1
  have v2 : vals 2 = .pointer (some ⟨w.heap.size, 5, none⟩) := (hv 2 (by decide)).1
  have v3 : vals 3 = .string b := (hv 3 (by decide)).1
  have v4 : vals 4 = .int .i64 b.size := (hv 4 (by decide)).1
  have v5 : vals 5 = .int .i64 ((b.size : Int) + 12) := (hv 5 (by decide)).1
  have v6 : vals 6 = .pointer (some ⟨w.heap.size, 0, none⟩) := (hv 6 (by decide)).1
  have v7 : vals 7 = .int .i64 t := (hv 7 (by decide)).1
  have v8 : vals 8 = .pointer (some ⟨w.heap.size, 1, none⟩) := (hv 8 (by decide)).1
  have v9 : vals 9 = .int .i64 s := (hv 9 (by decide)).1
  have v10 : vals 10 = .pointer (some ⟨w.heap.size, 3, none⟩) := (hv 10 (by decide)).1
  have v11 : vals 11 = .int .i64 ns := (hv 11 (by decide)).1
  have v12 : vals 12 = .pointer (some ⟨w.heap.size, 4, none⟩) := (hv 12 (by decide)).1
  have v13 : vals 13 = .int .i64 nr := (hv 13 (by decide)).1
  obtain ⟨g14, _, v14, b14⟩ : ∃ g, 0 ≤ g ∧ vals 14 = .slice (some ⟨g, 0, none⟩) 5 5 ∧ Blk W g 3 #[.int .i64 ((b.size : Int) + 12), .int .i64 t, .int .i64 s, .int .i64 ns, .int .i64 nr] := (hv 14 (by decide)).1
  have v15 : vals 15 = .string ws := (hv 15 (by decide)).1
  have v16 : vals 16 = .string (strOfNums [72, 2] ++ ws) := (hv 16 (by decide)).1
  have v17 : vals 17 = .pointer (some ⟨w.heap.size, 5, none⟩) := (hv 17 (by decide)).1
  have v18 : vals 18 = .string b := (hv 18 (by decide)).1
  have v19 : vals 19 = .string (strOfNums [72, 2] ++ ws ++ b) := (hv 19 (by decide)).1
  have v20 : vals 20 = .string (strOfNums [72, 2] ++ ws ++ b) := (hv 20 (by decide)).1
  have v21 : vals 21 = .int .i64 0 := (hv 21 (by decide)).1
  clear hv
  simp only [putAll, Act.put, Nat.zero_add, Nat.reduceAdd, v0, v1, v2, v3, v4, v5, v6, v7, v8, v9, v10, v11, v12, v13, v14, v15, v16, v17, v18, v19, v20, v21, List.setIfInBounds_toArray, List.set_cons_zero, List.set_cons_succ]
  clear v0 v1 v2 v3 v4 v5 v6 v7 v8 v9 v10 v11 v12 v13 v14 v15 v16 v17 v18 v19 v20 v21
  go_wp2_with fail
  go_ret2
  exact ⟨rfl, U0.out.trans (HU1.out.trans hu)⟩
set_option maxHeartbeats 600000 in
theorem putLoad_plain (t s : Int) (b : ByteArray) (h : (0 ≤ t ∧ t < 65536) ∧ (0 ≤ s ∧ s < 65536)) (hb : b.size ≤ maxLen) (w : World) :
    Calls Tryz.prog 27 #[(⟨t, s, false, 0, 0, b⟩ : Ld).agg] w fun e w' => e = .returned (.tuple #[.string (⟨t, s, false, 0, 0, b⟩ : Ld).put.1, .int .i64 (⟨t, s, false, 0, 0, b⟩ : Ld).put.2]) ∧ Upd [] w w' := by
  simp only [maxLen] at hb
  obtain ⟨A, hA⟩ : ∃ A, A = Obj.cells #[.int .i64 t, .int .i64 s, .bool false, .int .i64 0, .int .i64 0, .string b] 26 := ⟨_, rfl⟩
  have A0 : Blk (w.alloc A) w.heap.size 26 #[.int .i64 t, .int .i64 s, .bool false, .int .i64 0, .int .i64 0, .string b] := by rw [hA]; exact Blk.new _ _ _
  have U0 : Hid (Upd [] w (w.alloc A)) := (Upd.refl [] w).alloc A
  have HH := Lib.hid h
  have HBAD : Hid ((⟨t, s, false, 0, 0, b⟩ : Ld).bad = false) := by
    show _ = _
    have := HH.out
    simp only [Ld.bad]
    simp
    omega
  have HW0 : Hid (([t, s, 0, 0] : List Int).any overWord = false) := by
    show _ = _
    have := HH.out
    simp [overWord]
    omega
  have HI : Hid (∀ W : World, IntsAt (W.alloc (.cells #[.int .i64 t, .int .i64 s, .int .i64 0, .int .i64 0] 3)) (.slice (some ⟨W.heap.size, 0, none⟩) 4 4) [t, s, 0, 0]) := fun W => IntsAt.of_blk (l := [t, s, 0, 0]) (Blk.new _ _ _) (by simp [maxLen])
  have HC : Hid (∀ W, Upd [] (w.alloc A) W → W.cell? ⟨w.heap.size, 0, none⟩ = some (.int .i64 t) ∧ W.cell? ⟨w.heap.size, 1, none⟩ = some (.int .i64 s) ∧ W.cell? ⟨w.heap.size, 2, none⟩ = some (.bool false) ∧ W.cell? ⟨w.heap.size, 3, none⟩ = some (.int .i64 0) ∧ W.cell? ⟨w.heap.size, 4, none⟩ = some (.int .i64 0) ∧ W.cell? ⟨w.heap.size, 5, none⟩ = some (.string b)) := fun W hu =>
    ⟨(A0.upd hu (by simp)).cell 0, (A0.upd hu (by simp)).cell 1, (A0.upd hu (by simp)).cell 2, (A0.upd hu (by simp)).cell 3, (A0.upd hu (by simp)).cell 4, (A0.upd hu (by simp)).cell 5⟩
  have HA := Lib.hid hA
  clear hA A0 h
  by_cases t1 : 1460 < b.size
  · have t1' : (1460 : Int) < b.size := by omega
    have HQ : Hid ((⟨t, s, false, 0, 0, b⟩ : Ld).put = (⟨#[]⟩, 2)) := by show _ = _; rw [Ld.put, HBAD.out, if_neg (by simp), if_pos t1]
    rw [HQ.out]
    clear HQ HBAD
    have hc := HC.out _ (Upd.refl [] (w.alloc A))
    have hI := HI.out (w.alloc A)
    rw [show (w.alloc A).heap.size = w.heap.size + 1 by simp] at hI
    go_enter Tryz.func27, Tryz.ntmps27
    simp only [Ld.agg]
    go_wp2_with fail
    rw [← HA.out]
    clear HA
    generalize w.alloc A = wA at *
    go_wp2_with fail
    refine (words_any [t, s, 0, 0] _ _ hI).mono ?_
    rintro e w1 ⟨rfl, hu1⟩
    have HU1 : Hid (Upd [] wA w1) := ((Upd.refl _ _).alloc _).trans hu1
    clear hu1 hc
    rw [HW0.out]
    have hc := HC.out _ HU1.out
    simp only [Bool.not_false]
    go_wp2_with fail
    go_ret2
    exact ⟨rfl, U0.out.trans HU1.out⟩
  have t1' : ¬ (1460 : Int) < b.size := by omega
  obtain ⟨ws, hws⟩ : ∃ ws, ws = wordsOf [(b.size : Int) + 8, t, s] ⟨#[]⟩ := ⟨_, rfl⟩
  have hwz : ws.size = 6 := by rw [hws, wordsOfI_size]; rfl
  have HW : Hid (∀ (u : Value) (W : World), IntsAt W u [(b.size : Int) + 8, t, s] → Calls Tryz.prog 99 #[u] W fun e w' => e = .returned (.string ws) ∧ Upd [] W w') := by
    intro u W hu
    rw [hws]
    refine msgPut_any _ u W hu ?_ (by simp)
    intro n hn
    have := HH.out
    simp only [List.mem_cons, List.not_mem_nil, or_false] at hn
    rcases hn with rfl | rfl | rfl <;> omega
  have HQ : Hid ((⟨t, s, false, 0, 0, b⟩ : Ld).put = (strOfNums [64, 2] ++ ws ++ b, 0)) := by show _ = _; rw [Ld.put, HBAD.out, if_neg (by simp), if_neg t1, hws]; rfl
  rw [HQ.out]
  clear HQ HBAD hws
  have hc := HC.out _ (Upd.refl [] (w.alloc A))
  have hI := HI.out (w.alloc A)
  rw [show (w.alloc A).heap.size = w.heap.size + 1 by simp] at hI
  go_enter Tryz.func27, Tryz.ntmps27
  simp only [Ld.agg]
  go_wp2_with fail
  rw [← HA.out]
  clear HA
  generalize w.alloc A = wA at *
  go_wp2_with fail
  refine (words_any [t, s, 0, 0] _ _ hI).mono ?_
  rintro e w1 ⟨rfl, hu1⟩
  have HU1 : Hid (Upd [] wA w1) := ((Upd.refl _ _).alloc _).trans hu1
  clear hu1 hc
  rw [HW0.out]
  have hc := HC.out _ HU1.out
  simp only [Bool.not_false]
  go_wp2_with fail
  clear hc
  have hcells : ∀ W, Upd [] w1 W → _ := fun W hu => HC.out W (HU1.out.trans hu)
  refine wp_region_facts (.pure) (trivial) [.made (0) (by simp [Env.pure]) 2 5 #[.int .u8 64, .int .u8 2], .is (.string (strOfNums [64, 2])), .is (.pointer (some ⟨w.heap.size, 5, none⟩)), .is (.string b), .is (.int .i64 b.size), .is (.int .i64 ((b.size : Int) + 8)), .is (.pointer (some ⟨w.heap.size, 0, none⟩)), .is (.int .i64 t), .is (.pointer (some ⟨w.heap.size, 1, none⟩)), .is (.int .i64 s), .made (0) (by simp [Env.pure]) 3 3 #[.int .i64 ((b.size : Int) + 8), .int .i64 t, .int .i64 s], .is (.string ws), .is (.string (strOfNums [64, 2] ++ ws)), .is (.pointer (some ⟨w.heap.size, 5, none⟩)), .is (.string b), .is (.string (strOfNums [64, 2] ++ ws ++ b)), .is (.string (strOfNums [64, 2] ++ ws ++ b)), .is (.int .i64 0)] (by kernel_rfl) (by kernel_rfl) (by kernel_rfl) (by kernel_rfl) ?_ ?_
  · refine Steps.cons ?_ (Steps.cons ?_ (Steps.cons ?_ (Steps.cons ?_ (Steps.cons ?_ (Steps.cons ?_ (Steps.cons ?_ (Steps.cons ?_ (Steps.cons ?_ (Steps.cons ?_ (Steps.cons ?_ (Steps.cons ?_ (Steps.cons ?_ (Steps.cons ?_ (Steps.cons ?_ (Steps.cons ?_ (Steps.cons ?_ (Steps.cons ?_ Steps.nil)))))))))))))))))
    · refine step_run rfl (fun _ _ => trivial) ?_
      intro a W hi hF hD
      have hu := hi.upd
      clear hF hD
      have hc := hcells W hu
      exact ⟨_, _, by (go_simp; first | done | rfl | exact ⟨rfl, rfl⟩), (Upd.refl _ _).alloc _, _, Nat.zero_le _, rfl, Blk.new _ _ _⟩
    · refine step_is _ rfl ⟨_, rfl⟩ rfl (fun _ _ => trivial) ?_
      intro a W hi hF hD
      have hu := hi.upd
      obtain ⟨g40, _, e40, b40⟩ : ∃ g, 0 ≤ g ∧ a.eval (.tmp 40) = .slice (some ⟨g, 0, none⟩) 2 2 ∧ Blk W g 5 #[.int .u8 64, .int .u8 2] := (hD _ (Array.mem_of_getElem? (i := 0) rfl) rfl).1
      rw [ev] at e40
      clear hF hD
      have hc := hcells W hu
      have hcv := str2 Tryz.underlying151 Tryz.underlying5 Tryz.underlying9 b40
      go_simp
    · refine step_is _ rfl ⟨_, rfl⟩ rfl (fun _ _ => trivial) ?_
      intro a W hi hF hD
      have hu := hi.upd
      have e1 : a.tmps[1]?.getD undef = _ := (ev a 1).symm.trans (hF 1 (by kernel_rfl))
      clear hF hD
      have hc := hcells W hu
      go_simp
    · refine step_is _ rfl ⟨_, rfl⟩ rfl (fun _ _ => trivial) ?_
      intro a W hi hF hD
      have hu := hi.upd
      have e42 : a.tmps[42]?.getD undef = .pointer (some ⟨w.heap.size, 5, none⟩) := (ev a 42).symm.trans (hD _ (Array.mem_of_getElem? (i := 0) rfl) rfl).1
      clear hF hD
      have hc := hcells W hu
      go_simp
    · refine step_is _ rfl ⟨_, rfl⟩ rfl (fun _ _ => trivial) ?_
      intro a W hi hF hD
      have hu := hi.upd
      have e43 : a.tmps[43]?.getD undef = .string b := (ev a 43).symm.trans (hD _ (Array.mem_of_getElem? (i := 0) rfl) rfl).1
      clear hF hD
      have hc := hcells W hu
      go_simp
    · refine step_is _ rfl ⟨_, rfl⟩ rfl (fun _ _ => trivial) ?_
      intro a W hi hF hD
      have hu := hi.upd
      have e44 : a.tmps[44]?.getD undef = .int .i64 b.size := (ev a 44).symm.trans (hD _ (Array.mem_of_getElem? (i := 0) rfl) rfl).1
      clear hF hD
      have hc := hcells W hu
      go_simp
      exact IntWalk.i64_in ((b.size : Int) + 8) (by omega)
    · refine step_is _ rfl ⟨_, rfl⟩ rfl (fun _ _ => trivial) ?_
      intro a W hi hF hD
      have hu := hi.upd
      have e1 : a.tmps[1]?.getD undef = _ := (ev a 1).symm.trans (hF 1 (by kernel_rfl))
      clear hF hD
      have hc := hcells W hu
      go_simp
    · refine step_is _ rfl ⟨_, rfl⟩ rfl (fun _ _ => trivial) ?_
      intro a W hi hF hD
      have hu := hi.upd
      have e46 : a.tmps[46]?.getD undef = .pointer (some ⟨w.heap.size, 0, none⟩) := (ev a 46).symm.trans (hD _ (Array.mem_of_getElem? (i := 0) rfl) rfl).1
      clear hF hD
      have hc := hcells W hu
      go_simp
    · refine step_is _ rfl ⟨_, rfl⟩ rfl (fun _ _ => trivial) ?_
      intro a W hi hF hD
      have hu := hi.upd
      have e1 : a.tmps[1]?.getD undef = _ := (ev a 1).symm.trans (hF 1 (by kernel_rfl))
      clear hF hD
      have hc := hcells W hu
      go_simp
    · refine step_is _ rfl ⟨_, rfl⟩ rfl (fun _ _ => trivial) ?_
      intro a W hi hF hD
      have hu := hi.upd
      have e48 : a.tmps[48]?.getD undef = .pointer (some ⟨w.heap.size, 1, none⟩) := (ev a 48).symm.trans (hD _ (Array.mem_of_getElem? (i := 0) rfl) rfl).1
      clear hF hD
      have hc := hcells W hu
      go_simp
    · refine step_run rfl (fun _ _ => trivial) ?_
      intro a W hi hF hD
      have hu := hi.upd
      have e45 : a.tmps[45]?.getD undef = .int .i64 ((b.size : Int) + 8) := (ev a 45).symm.trans (hD _ (Array.mem_of_getElem? (i := 0) rfl) rfl).1
      have e47 : a.tmps[47]?.getD undef = .int .i64 t := (ev a 47).symm.trans (hD _ (Array.mem_of_getElem? (i := 1) rfl) rfl).1
      have e49 : a.tmps[49]?.getD undef = .int .i64 s := (ev a 49).symm.trans (hD _ (Array.mem_of_getElem? (i := 2) rfl) rfl).1
      clear hF hD
      have hc := hcells W hu
      exact ⟨_, _, by (go_simp; first | done | rfl | exact ⟨rfl, rfl⟩), (Upd.refl _ _).alloc _, _, Nat.zero_le _, rfl, Blk.new _ _ _⟩
    · refine step_call rfl (fun _ _ => trivial) ?_
      intro a W hi hF hD
      have hu := hi.upd
      obtain ⟨g50, _, e50, b50⟩ : ∃ g, 0 ≤ g ∧ a.eval (.tmp 50) = .slice (some ⟨g, 0, none⟩) 3 3 ∧ Blk W g 3 #[.int .i64 ((b.size : Int) + 8), .int .i64 t, .int .i64 s] := (hD _ (Array.mem_of_getElem? (i := 0) rfl) rfl).1
      rw [ev] at e50
      clear hF hD
      have hc := hcells W hu
      refine ⟨_, _, by (go_simp; first | done | rfl | exact ⟨rfl, rfl⟩), ?_⟩
      refine (HW.out _ _ (IntsAt.of_blk (l := [(b.size : Int) + 8, t, s]) b50 (by simp [maxLen]))).mono ?_
      rintro e w2 ⟨rfl, hu2⟩
      first | exact ⟨_, rfl, hu2, rfl⟩ | (cases hu2; exact ⟨_, rfl, Upd.refl _ _, rfl⟩)
    · refine step_is _ rfl ⟨_, rfl⟩ rfl (fun _ _ => trivial) ?_
      intro a W hi hF hD
      have hu := hi.upd
      have e41 : a.tmps[41]?.getD undef = .string (strOfNums [64, 2]) := (ev a 41).symm.trans (hD _ (Array.mem_of_getElem? (i := 0) rfl) rfl).1
      have e51 : a.tmps[51]?.getD undef = .string ws := (ev a 51).symm.trans (hD _ (Array.mem_of_getElem? (i := 1) rfl) rfl).1
      clear hF hD
      have hc := hcells W hu
      have := run_string_add_sum (P := Tryz.prog) W (strOfNums [64, 2]) ws (by rw [strOfNums_size, hwz]; decide)
      go_simp
    · refine step_is _ rfl ⟨_, rfl⟩ rfl (fun _ _ => trivial) ?_
      intro a W hi hF hD
      have hu := hi.upd
      have e1 : a.tmps[1]?.getD undef = _ := (ev a 1).symm.trans (hF 1 (by kernel_rfl))
      clear hF hD
      have hc := hcells W hu
      go_simp
    · refine step_is _ rfl ⟨_, rfl⟩ rfl (fun _ _ => trivial) ?_
      intro a W hi hF hD
      have hu := hi.upd
      have e53 : a.tmps[53]?.getD undef = .pointer (some ⟨w.heap.size, 5, none⟩) := (ev a 53).symm.trans (hD _ (Array.mem_of_getElem? (i := 0) rfl) rfl).1
      clear hF hD
      have hc := hcells W hu
      go_simp
    · refine step_is _ rfl ⟨_, rfl⟩ rfl (fun _ _ => trivial) ?_
      intro a W hi hF hD
      have hu := hi.upd
      have e52 : a.tmps[52]?.getD undef = .string (strOfNums [64, 2] ++ ws) := (ev a 52).symm.trans (hD _ (Array.mem_of_getElem? (i := 0) rfl) rfl).1
      have e54 : a.tmps[54]?.getD undef = .string b := (ev a 54).symm.trans (hD _ (Array.mem_of_getElem? (i := 1) rfl) rfl).1
      clear hF hD
      have hc := hcells W hu
      have := run_string_add_sum (P := Tryz.prog) W (strOfNums [64, 2] ++ ws) b (by rw [ByteArray.size_append, strOfNums_size, hwz]; simp; omega)
      go_simp
    · refine step_is _ rfl ⟨_, rfl⟩ rfl (fun _ _ => trivial) ?_
      intro a W hi hF hD
      have hu := hi.upd
      have e55 : a.tmps[55]?.getD undef = .string (strOfNums [64, 2] ++ ws ++ b) := (ev a 55).symm.trans (hD _ (Array.mem_of_getElem? (i := 0) rfl) rfl).1
      clear hF hD
      have hc := hcells W hu
      go_simp
    · refine step_is _ rfl ⟨_, rfl⟩ rfl (fun _ _ => trivial) ?_
      intro a W hi hF hD
      have hu := hi.upd
      clear hF hD
      have hc := hcells W hu
      go_simp
  intro vals W hu hv
  obtain ⟨g0, _, v0, b0⟩ : ∃ g, 0 ≤ g ∧ vals 0 = .slice (some ⟨g, 0, none⟩) 2 2 ∧ Blk W g 5 #[.int .u8 64, .int .u8 2] := (hv 0 (by decide)).1
  have v1 : vals 1 = .string (strOfNums [64, 2]) := (hv 1 (by decide)).1
  have v2 : vals 2 = .pointer (some ⟨w.heap.size, 5, none⟩) := (hv 2 (by decide)).1
  have v3 : vals 3 = .string b := (hv 3 (by decide)).1
  have v4 : vals 4 = .int .i64 b.size := (hv 4 (by decide)).1
  have v5 : vals 5 = .int .i64 ((b.size : Int) + 8) := (hv 5 (by decide)).1
  have v6 : vals 6 = .pointer (some ⟨w.heap.size, 0, none⟩) := (hv 6 (by decide)).1
  have v7 : vals 7 = .int .i64 t := (hv 7 (by decide)).1
  have v8 : vals 8 = .pointer (some ⟨w.heap.size, 1, none⟩) := (hv 8 (by decide)).1
  have v9 : vals 9 = .int .i64 s := (hv 9 (by decide)).1
  obtain ⟨g10, _, v10, b10⟩ : ∃ g, 0 ≤ g ∧ vals 10 = .slice (some ⟨g, 0, none⟩) 3 3 ∧ Blk W g 3 #[.int .i64 ((b.size : Int) + 8), .int .i64 t, .int .i64 s] := (hv 10 (by decide)).1
  have v11 : vals 11 = .string ws := (hv 11 (by decide)).1
  have v12 : vals 12 = .string (strOfNums [64, 2] ++ ws) := (hv 12 (by decide)).1
  have v13 : vals 13 = .pointer (some ⟨w.heap.size, 5, none⟩) := (hv 13 (by decide)).1
  have v14 : vals 14 = .string b := (hv 14 (by decide)).1
  have v15 : vals 15 = .string (strOfNums [64, 2] ++ ws ++ b) := (hv 15 (by decide)).1
  have v16 : vals 16 = .string (strOfNums [64, 2] ++ ws ++ b) := (hv 16 (by decide)).1
  have v17 : vals 17 = .int .i64 0 := (hv 17 (by decide)).1
  clear hv
  simp only [putAll, Act.put, Nat.zero_add, Nat.reduceAdd, v0, v1, v2, v3, v4, v5, v6, v7, v8, v9, v10, v11, v12, v13, v14, v15, v16, v17, List.setIfInBounds_toArray, List.set_cons_zero, List.set_cons_succ]
  clear v0 v1 v2 v3 v4 v5 v6 v7 v8 v9 v10 v11 v12 v13 v14 v15 v16 v17
  go_wp2_with fail
  go_ret2
  exact ⟨rfl, U0.out.trans (HU1.out.trans hu)⟩

set_option maxHeartbeats 2000000 in
theorem putLoad_bad (t s : Int) (q : Bool) (ns nr : Int) (b : ByteArray) (h : (⟨t, s, q, ns, nr, b⟩ : Ld).bad = true) (w : World) :
    Calls Tryz.prog 27 #[(⟨t, s, q, ns, nr, b⟩ : Ld).agg] w fun e w' => e = .returned (.tuple #[.string ⟨#[]⟩, .int .i64 1]) ∧ Upd [] w w' := by
  obtain ⟨A, hA⟩ : ∃ A, A = Obj.cells #[.int .i64 t, .int .i64 s, .bool q, .int .i64 ns, .int .i64 nr, .string b] 26 := ⟨_, rfl⟩
  have A0 : Blk (w.alloc A) w.heap.size 26 #[.int .i64 t, .int .i64 s, .bool q, .int .i64 ns, .int .i64 nr, .string b] := by rw [hA]; exact Blk.new _ _ _
  have U0 : Hid (Upd [] w (w.alloc A)) := (Upd.refl [] w).alloc A
  have HI : Hid (∀ W : World, IntsAt (W.alloc (.cells #[.int .i64 t, .int .i64 s, .int .i64 ns, .int .i64 nr] 3)) (.slice (some ⟨W.heap.size, 0, none⟩) 4 4) [t, s, ns, nr]) := fun W => IntsAt.of_blk (l := [t, s, ns, nr]) (Blk.new _ _ _) (by simp [maxLen])
  have HC : Hid (∀ W, Upd [] (w.alloc A) W → W.cell? ⟨w.heap.size, 0, none⟩ = some (.int .i64 t) ∧ W.cell? ⟨w.heap.size, 1, none⟩ = some (.int .i64 s) ∧ W.cell? ⟨w.heap.size, 2, none⟩ = some (.bool q) ∧ W.cell? ⟨w.heap.size, 3, none⟩ = some (.int .i64 ns) ∧ W.cell? ⟨w.heap.size, 4, none⟩ = some (.int .i64 nr) ∧ W.cell? ⟨w.heap.size, 5, none⟩ = some (.string b)) := fun W hu =>
    ⟨(A0.upd hu (by simp)).cell 0, (A0.upd hu (by simp)).cell 1, (A0.upd hu (by simp)).cell 2, (A0.upd hu (by simp)).cell 3, (A0.upd hu (by simp)).cell 4, (A0.upd hu (by simp)).cell 5⟩
  have HA := Lib.hid hA
  clear hA A0
  have hc := HC.out _ (Upd.refl [] (w.alloc A))
  have hI := HI.out (w.alloc A)
  rw [show (w.alloc A).heap.size = w.heap.size + 1 by simp] at hI
  have hov : (fun n : Int => decide (n < 0) || decide (65535 < n)) = overWord := rfl
  simp only [Ld.bad, hov] at h
  cases hw0 : ([t, s, ns, nr] : List Int).any overWord
  rotate_left
  · have HW0 := Lib.hid hw0
    clear h hov hw0
    go_enter Tryz.func27, Tryz.ntmps27
    simp only [Ld.agg]
    go_wp2_with fail
    rw [← HA.out]
    clear HA
    generalize w.alloc A = wA at *
    go_wp2_with fail
    refine (words_any [t, s, ns, nr] _ _ hI).mono ?_
    rintro e w1 ⟨rfl, hu1⟩
    have HU1 : Hid (Upd [] wA w1) := ((Upd.refl _ _).alloc _).trans hu1
    clear hu1 hc
    rw [HW0.out]
    have hc := HC.out _ HU1.out
    go_wp2_with fail
    go_ret2
    exact ⟨rfl, U0.out.trans HU1.out⟩
  rw [hw0, Bool.false_or] at h
  have HW0 := Lib.hid hw0
  clear hw0 hov
  cases q
  rotate_left
  · simp at h
  by_cases t1 : ns = 0
  · have t2 : nr ≠ 0 := by simpa [t1] using h
    have t2' : (nr != 0) = true := by simpa using t2
    have t1' : (ns != 0) = false := by simp [t1]
    clear h t1 t2
    go_enter Tryz.func27, Tryz.ntmps27
    simp only [Ld.agg]
    go_wp2_with fail
    rw [← HA.out]
    clear HA
    generalize w.alloc A = wA at *
    go_wp2_with fail
    refine (words_any [t, s, ns, nr] _ _ hI).mono ?_
    rintro e w1 ⟨rfl, hu1⟩
    have HU1 : Hid (Upd [] wA w1) := ((Upd.refl _ _).alloc _).trans hu1
    clear hu1 hc
    rw [HW0.out]
    have hc := HC.out _ HU1.out
    go_wp2_with fail
    go_ret2
    exact ⟨rfl, U0.out.trans HU1.out⟩
  · have t1' : (ns != 0) = true := by simpa using t1
    clear h t1
    go_enter Tryz.func27, Tryz.ntmps27
    simp only [Ld.agg]
    go_wp2_with fail
    rw [← HA.out]
    clear HA
    generalize w.alloc A = wA at *
    go_wp2_with fail
    refine (words_any [t, s, ns, nr] _ _ hI).mono ?_
    rintro e w1 ⟨rfl, hu1⟩
    have HU1 : Hid (Upd [] wA w1) := ((Upd.refl _ _).alloc _).trans hu1
    clear hu1 hc
    rw [HW0.out]
    have hc := HC.out _ HU1.out
    go_wp2_with fail
    go_ret2
    exact ⟨rfl, U0.out.trans HU1.out⟩
theorem putLoad_any (l : Ld) (hb : l.data.size ≤ maxLen) (w : World) :
    Calls Tryz.prog 27 #[l.agg] w fun e w' => e = .returned (.tuple #[.string l.put.1, .int .i64 l.put.2]) ∧ Upd [] w w' := by
  obtain ⟨t, s, q, ns, nr, b⟩ := l
  cases hbad : (⟨t, s, q, ns, nr, b⟩ : Ld).bad
  · have h : ([t, s, ns, nr].any (fun n => decide (n < 0) || decide (65535 < n)) || (!q && (!decide (ns = 0) || !decide (nr = 0)))) = false := hbad
    rw [Bool.or_eq_false_iff] at h
    obtain ⟨h1, h2⟩ := h
    have hr : (0 ≤ t ∧ t < 65536) ∧ (0 ≤ s ∧ s < 65536) ∧ (0 ≤ ns ∧ ns < 65536) ∧ (0 ≤ nr ∧ nr < 65536) := by
      simp at h1
      omega
    cases q
    · have : ns = 0 ∧ nr = 0 := by simpa using h2
      obtain ⟨rfl, rfl⟩ := this
      exact putLoad_plain t s b ⟨hr.1, hr.2.1⟩ hb w
    · exact putLoad_seq t s ns nr b hr hb w
  · have e : (⟨t, s, q, ns, nr, b⟩ : Ld).put = (⟨#[]⟩, 1) := by rw [Ld.put, if_pos hbad]
    rw [e]
    exact putLoad_bad t s q ns nr b hbad w
end Go.Proofs.YtglafpdealjlnaaGreat
namespace Go.Proofs.YtglafpdealjlnaaGreat
open Go.RowKit
set_option linter.unusedSimpArgs false
set_option linter.unusedVariables false
set_option maxRecDepth 100000

set_option maxHeartbeats 2000000 in
theorem sameRef_eq (l : List Av) (v u : Value) (w : World) (hl : AvsAt w v l) (hm : AvsAt w u l) :
    Calls Tryz.prog 90 #[v, u] w fun e w' => e = .returned (.bool true) ∧ Upd [] w w' := by
  obtain ⟨ao, cap, rfl, h1, h2, h3⟩ := id hl
  obtain ⟨bo, cbp, rfl, g1, g2, g3⟩ := id hm
  obtain ⟨n, hn⟩ : ∃ n, n = l.length := ⟨_, rfl⟩
  rw [← hn] at h1 g1
  rw [← hn]
  have HL := Lib.hid hl
  have HM := Lib.hid hm
  have HN := Lib.hid hn
  simp only [maxLen] at h2 g2
  clear h3 g3 hl hn hm
  go_enter Tryz.func90, Tryz.ntmps90
  go_wp2
  go_loopg [5] n (fun x s5 wr => ∃ k : Nat, k + x = n ∧ s5 = .int .i64 k ∧ Upd [] w wr)
  case atStart => exact ⟨0, by omega, rfl, Upd.refl _ _⟩
  case round =>
    obtain ⟨k, hk, rfl, hu⟩ := hrel
    by_cases t : k < n
    · obtain ⟨x, hx⟩ : ∃ x, l[k]? = some x := by
        have := HN.out
        exact ⟨_, List.getElem?_eq_getElem (by omega)⟩
      obtain ⟨ao', cap', e0, _, _, h3⟩ := HL.out.upd hu
      injection e0 with e0 _ e2
      subst e0 e2
      obtain ⟨q, rfl, c0, c1, c2, c3, c4⟩ := h3 k x hx
      clear h3
      obtain ⟨ao', cap', e0, _, _, h3⟩ := HM.out.upd hu
      injection e0 with e0 _ e2
      subst e0 e2
      obtain ⟨q', rfl, d0, d1, d2, d3, d4⟩ := h3 k x hx
      clear h3 hx
      have hcells : ∀ W, Upd [] wr W → AvAt W (q.add (k * 5)) x ∧ AvAt W (q'.add (k * 5)) x := fun W hu => ⟨AvAt.upd ⟨c0, c1, c2, c3, c4⟩ hu, AvAt.upd ⟨d0, d1, d2, d3, d4⟩ hu⟩
      simp only [AvAt] at hcells
      have HU0 := Lib.hid hu
      clear c0 c1 c2 c3 c4 d0 d1 d2 d3 d4 hu
      go_wp2_with fail
      refine wp_region_facts (.pure) (trivial) [.is (.slice (some q) n cap), .is (.int .i64 k), .is (.pointer (some (q.add (k * 5)))), .is (.agg #[.bool x.must, .bool x.hidden, .int .i64 x.vendor, .int .i64 x.kind, .string x.val]), .is (.slice (some q') n cbp), .is (.int .i64 k), .is (.pointer (some (q'.add (k * 5)))), .is (.agg #[.bool x.must, .bool x.hidden, .int .i64 x.vendor, .int .i64 x.kind, .string x.val]), .is (.bool false)] (by kernel_rfl) (by kernel_rfl) (by kernel_rfl) (by kernel_rfl) ?_ ?_
      · refine Steps.cons ?_ (Steps.cons ?_ (Steps.cons ?_ (Steps.cons ?_ (Steps.cons ?_ (Steps.cons ?_ (Steps.cons ?_ (Steps.cons ?_ (Steps.cons ?_ Steps.nil))))))))
        · refine step_is _ rfl ⟨_, rfl⟩ rfl (fun _ _ => trivial) ?_
          intro a W hi hF hD
          have hu := hi.upd
          have e0 : a.tmps[0]?.getD undef = _ := (ev a 0).symm.trans (hF 0 (by kernel_rfl))
          clear hF hD
          have hc := hcells W hu
          go_simp
        · refine step_is _ rfl ⟨_, rfl⟩ rfl (fun _ _ => trivial) ?_
          intro a W hi hF hD
          have hu := hi.upd
          have e5 : a.tmps[5]?.getD undef = _ := (ev a 5).symm.trans (hF 5 (by kernel_rfl))
          clear hF hD
          have hc := hcells W hu
          go_simp
        · refine step_is _ rfl ⟨_, rfl⟩ rfl (fun _ _ => trivial) ?_
          intro a W hi hF hD
          have hu := hi.upd
          have e17 : a.tmps[17]?.getD undef = .slice (some q) n cap := (ev a 17).symm.trans (hD _ (Array.mem_of_getElem? (i := 0) rfl) rfl).1
          have e18 : a.tmps[18]?.getD undef = .int .i64 k := (ev a 18).symm.trans (hD _ (Array.mem_of_getElem? (i := 1) rfl) rfl).1
          clear hF hD
          have hc := hcells W hu
          go_simp
        · refine step_is _ rfl ⟨_, rfl⟩ rfl (fun _ _ => trivial) ?_
          intro a W hi hF hD
          have hu := hi.upd
          have e19 : a.tmps[19]?.getD undef = .pointer (some (q.add (k * 5))) := (ev a 19).symm.trans (hD _ (Array.mem_of_getElem? (i := 0) rfl) rfl).1
          clear hF hD
          have hc := hcells W hu
          go_simp
        · refine step_is _ rfl ⟨_, rfl⟩ rfl (fun _ _ => trivial) ?_
          intro a W hi hF hD
          have hu := hi.upd
          have e1 : a.tmps[1]?.getD undef = _ := (ev a 1).symm.trans (hF 1 (by kernel_rfl))
          clear hF hD
          have hc := hcells W hu
          go_simp
        · refine step_is _ rfl ⟨_, rfl⟩ rfl (fun _ _ => trivial) ?_
          intro a W hi hF hD
          have hu := hi.upd
          have e5 : a.tmps[5]?.getD undef = _ := (ev a 5).symm.trans (hF 5 (by kernel_rfl))
          clear hF hD
          have hc := hcells W hu
          go_simp
        · refine step_is _ rfl ⟨_, rfl⟩ rfl (fun _ _ => trivial) ?_
          intro a W hi hF hD
          have hu := hi.upd
          have e21 : a.tmps[21]?.getD undef = .slice (some q') n cbp := (ev a 21).symm.trans (hD _ (Array.mem_of_getElem? (i := 0) rfl) rfl).1
          have e22 : a.tmps[22]?.getD undef = .int .i64 k := (ev a 22).symm.trans (hD _ (Array.mem_of_getElem? (i := 1) rfl) rfl).1
          clear hF hD
          have hc := hcells W hu
          go_simp
        · refine step_is _ rfl ⟨_, rfl⟩ rfl (fun _ _ => trivial) ?_
          intro a W hi hF hD
          have hu := hi.upd
          have e23 : a.tmps[23]?.getD undef = .pointer (some (q'.add (k * 5))) := (ev a 23).symm.trans (hD _ (Array.mem_of_getElem? (i := 0) rfl) rfl).1
          clear hF hD
          have hc := hcells W hu
          go_simp
        · refine step_is _ rfl ⟨_, rfl⟩ rfl (fun _ _ => trivial) ?_
          intro a W hi hF hD
          have hu := hi.upd
          have e20 : a.tmps[20]?.getD undef = .agg #[.bool x.must, .bool x.hidden, .int .i64 x.vendor, .int .i64 x.kind, .string x.val] := (ev a 20).symm.trans (hD _ (Array.mem_of_getElem? (i := 0) rfl) rfl).1
          have e24 : a.tmps[24]?.getD undef = .agg #[.bool x.must, .bool x.hidden, .int .i64 x.vendor, .int .i64 x.kind, .string x.val] := (ev a 24).symm.trans (hD _ (Array.mem_of_getElem? (i := 1) rfl) rfl).1
          clear hF hD
          have hc := hcells W hu
          go_simp
          done
      intro vals W hu hv
      have v0 : vals 0 = .slice (some q) n cap := (hv 0 (by decide)).1
      have v1 : vals 1 = .int .i64 k := (hv 1 (by decide)).1
      have v2 : vals 2 = .pointer (some (q.add (k * 5))) := (hv 2 (by decide)).1
      have v3 : vals 3 = .agg #[.bool x.must, .bool x.hidden, .int .i64 x.vendor, .int .i64 x.kind, .string x.val] := (hv 3 (by decide)).1
      have v4 : vals 4 = .slice (some q') n cbp := (hv 4 (by decide)).1
      have v5 : vals 5 = .int .i64 k := (hv 5 (by decide)).1
      have v6 : vals 6 = .pointer (some (q'.add (k * 5))) := (hv 6 (by decide)).1
      have v7 : vals 7 = .agg #[.bool x.must, .bool x.hidden, .int .i64 x.vendor, .int .i64 x.kind, .string x.val] := (hv 7 (by decide)).1
      have v8 : vals 8 = .bool false := (hv 8 (by decide)).1
      clear hv
      simp only [putAll, Act.put, Nat.zero_add, Nat.reduceAdd, v0, v1, v2, v3, v4, v5, v6, v7, v8, List.setIfInBounds_toArray, List.set_cons_zero, List.set_cons_succ]
      clear v0 v1 v2 v3 v4 v5 v6 v7 v8
      have HU := Lib.hid (HU0.out.trans hu)
      clear hu hcells
      go_wp2_with fail
      go_roundg (n - (k + 1))
      case rel => exact ⟨k + 1, by omega, by go_num, HU.out⟩
      case measure => omega
    · obtain rfl : k = n := by omega
      go_wp2
      go_ret
      exact ⟨rfl, hu⟩
set_option maxHeartbeats 2000000 in
theorem sameCtl_eq (c : Cm) (v u : Value) (w : World) (hl : AvsAt w v c.l) (hm : AvsAt w u c.l) :
    Calls Tryz.prog 13 #[c.val v, c.val u] w fun e w' => e = .returned (.bool true) ∧ Upd [] w w' := by
  obtain ⟨t, s, ns, nr, l⟩ := c
  dsimp only at hl hm
  simp only [Cm.val]
  obtain ⟨ao, cap, rfl, -⟩ := id hl
  obtain ⟨bo, cbp, rfl, -⟩ := id hm
  obtain ⟨n, hn⟩ : ∃ n, l.length = n := ⟨_, rfl⟩
  rw [hn] at hl hm ⊢
  clear hn
  have HL := Lib.hid hl
  have HM := Lib.hid hm
  clear hl hm
  go_enter Tryz.func13, Tryz.ntmps13
  go_wp2_with fail
  refine (sameRef_eq l _ _ _ (HL.out.upd (((Upd.refl _ _).alloc _).alloc _)) (HM.out.upd (((Upd.refl _ _).alloc _).alloc _))).mono ?_
  rintro e w1 ⟨rfl, hu1⟩
  go_wp2_with fail
  go_ret
  exact ⟨rfl, (((Upd.refl _ _).alloc _).alloc _).trans hu1⟩
end Go.Proofs.YtglafpdealjlnaaGreat
