/- WRITTEN by wip/gen/bkkind.py. The book's Says: copies, comparisons, marks. -/
import Derived.Test.YtglafpdealjlnaaGreatProg
import Derived.Test.YtglafpdealjlnaaGreatQBkNil
import Derived.Test.YtglafpdealjlnaaGreatQLib
import Derived.Test.YtglafpdealjlnaaGreatQBkSayR
namespace Go.Proofs.YtglafpdealjlnaaGreat
open Go.RowKit
set_option linter.unusedSimpArgs false
set_option linter.unusedVariables false
set_option maxRecDepth 100000

def bkMSays (i k : Nat) : SayR := ⟨-1000 * (i : Int) - (k : Int) - 1, ⟨none, 0, 0⟩⟩
theorem bkISays : (Tryz.prog.info? 191).map (fun i => (i.zero, i.size, i.bytes)) = some (some (.agg #[.int .i64 0, .slice none 0 0]), 2, 32) := by kernel_rfl
theorem bkOSays : (Tryz.prog.info? 81).map (fun i => (i.zero, i.size, i.bytes)) = some (some (.slice none 0 0), 1, 24) := by kernel_rfl

theorem relSays_marks (w : World) (i k n : Nat) : RelSays w (marks bkMSays i k n) (marks bkMSays i k n) := relSays_refl fun x hx => by
  simp only [marks, List.mem_map] at hx
  obtain ⟨j, -, rfl⟩ := hx
  exact ⟨[], SlAt.nil _ _, by simp⟩

set_option maxHeartbeats 1000000 in
theorem bkMarkSays (i k n : Nat) (w : World) (hi : i ≤ 1000) (hk : k ≤ 1000000) (hn : n ≤ 1000000) :
    Calls Tryz.prog 261 #[.int .i64 i, .int .i64 k, .int .i64 n] w (GivesL bkCSays 191 2 (marks bkMSays i k n) w) := by
  obtain ⟨i0, hi0, hz0, hz1, hz2⟩ := info_parts bkISays
  have HLEN := Lib.hid (marks_length bkMSays i k n)
  obtain ⟨z, hz⟩ : ∃ z : Nat, (k : Int) + (n : Int) = (z : Int) := ⟨k + n, by omega⟩
  have hz' : z = k + n := by omega
  have HZ := Lib.hid hz'
  have hzb : z ≤ 2000000 := by omega
  clear hz'
  go_enter Tryz.func261, Tryz.ntmps261
  go_wp2_with fail
  go_loopg [7, 8] n (fun m s7 s8 wr => ∃ (j x : Nat) (ao : Option Addr) (cap : Nat) (own : List Nat), j + m = n ∧ x = k + j ∧ s7 = .slice ao j cap ∧ s8 = .int .i64 x ∧
    Own wr 191 2 (.slice ao j cap) j ((marks bkMSays i k j).flatMap bkCSays) own ∧ (∀ y ∈ own, w.heap.size ≤ y) ∧ Upd [] w wr)
  case atStart => exact ⟨0, k, none, 0, [], by omega, by omega, rfl, rfl, Own.nil _ _ _, by simp, Upd.refl _ _⟩
  case round =>
    obtain ⟨j, x, ao, cap, own, hj, hx, rfl, rfl, ho, hf, hu⟩ := hrel
    have HO := Lib.hid ho
    have HF := Lib.hid hf
    have HU := Lib.hid hu
    have HX := Lib.hid hx
    have hx2 : x ≤ 1000000000000 := by omega
    have hx3 : x ≤ z := by have := HZ.out; omega
    have hjn : j ≤ n := by omega
    have hjm := Lib.hid hj
    have hsw := hu.size
    by_cases t : x < z
    · have tj : Hid (j < n) := by show j < n; have := HZ.out; omega
      clear ho hf hu hx hj
      go_wp2_with (first
        | (at_builtin; refine wpList_append_Duo _ rfl (.tmp 17) (.tmp 24) 81 rfl 191 i0 _ 2 32 Tryz.underlying81 hi0 hz0 hz1 hz2 rfl (by decide) (.slice ao j cap) j _ own (by simp [Act.eval]) (Own.alloc _ HO.out) ⟨wr.heap.size, 0, none⟩ 1 1 (bkCSays (bkMSays i x)) (by simp [Act.eval]) rfl (World.news_of_block (Blk.new _ _ _)) (by simp [Value.oneCell', bkCSays, Sl.val]) (by decide) (by simp only [maxLen]; omega) (by omega) ?_; intro g off cap1 w4 own1 ho1 hc1; have HO1 := Lib.hid ho1; have HC1 := Lib.hid hc1; clear ho1 hc1))
      go_roundg (n - (j + 1))
      case rel =>
        have hW : Upd [] w (wr.alloc (.cells (bkCSays (bkMSays i x)).toArray 191)) := HU.out.alloc _
        have hx := HX.out
        subst hx
        refine ⟨j + 1, k + j + 1, _, cap1, own1, by have := tj.out; omega, by omega, rfl, by go_num, ?_, fun y hy => ?_, ?_⟩
        · rw [marks_succ, List.flatMap_append, List.flatMap_singleton]
          exact HO1.out
        · rcases HC1.out with ⟨rfl, _⟩ | ⟨h, _⟩
          · exact HF.out y hy
          · exact Nat.le_trans hW.size (h y hy)
        · rcases HC1.out with ⟨_, _, h⟩ | ⟨_, h⟩
          · exact hW.trans' h fun y hy => .inr (HF.out y hy)
          · exact hW.trans h
      case measure => have := hjm.out; have := tj.out; omega
    · have hjz : j = n := by have := HZ.out; have := HX.out; omega
      subst hjz
      clear ho hf hu hx hj
      go_wp2_with fail
      go_ret
      rw [GivesL]
      rw [HLEN.out]
      exact ⟨ao, cap, own, rfl, HO.out, HF.out, HU.out⟩

end Go.Proofs.YtglafpdealjlnaaGreat
