/- WRITTEN by wip/gen/bkkind.py. The book's Ints: copies, comparisons, marks. -/
import Derived.Test.YtglafpdealjlnaaGreatProg
import Derived.Test.YtglafpdealjlnaaGreatQBkN
import Derived.Test.YtglafpdealjlnaaGreatQLib
namespace Go.Proofs.YtglafpdealjlnaaGreat
open Go.RowKit
set_option linter.unusedSimpArgs false
set_option linter.unusedVariables false
set_option maxRecDepth 100000

def bkCInts (x : Int) : List Value := [.int .i64 x]
theorem bkCInts_len (x : Int) : (bkCInts x).length = 1 := rfl
theorem bkCInts_one (l : List Int) : ∀ u ∈ l.flatMap bkCInts, u.oneCell' = true := by
  intro u hu
  obtain ⟨x, _, hu⟩ := List.mem_flatMap.1 hu
  simp [bkCInts] at hu
  rcases hu with rfl <;> rfl
def bkMInts (i k : Nat) : Int := -1000000 * (i : Int) - (k : Int) - 7
theorem bkIInts : (Tryz.prog.info? 3).map (fun i => (i.zero, i.size, i.bytes)) = some (some (.int .i64 0), 1, 8) := by kernel_rfl
theorem bkOInts : (Tryz.prog.info? 59).map (fun i => (i.zero, i.size, i.bytes)) = some (some (.slice none 0 0), 1, 24) := by kernel_rfl

set_option maxHeartbeats 1000000 in
theorem bkCopyInts (l : List Int) (v : Value) (w : World) (hl : Rd w 1 v l.length (l.flatMap bkCInts)) (hn : l.length ≤ 1000000) :
    Calls Tryz.prog 98 #[v] w (GivesL bkCInts 3 1 l w) := by
  obtain ⟨i0, hi, hz0, hz1, hz2⟩ := info_parts bkIInts
  have HL := Lib.hid hl
  clear hl
  go_enter Tryz.func98, Tryz.ntmps98
  go_wp2_with (at_builtin; refine wpList_append_Rd _ rfl (.const (.slice none 0 0)) (.tmp 3) 59 rfl 3 i0 _ 1 8 Tryz.underlying59 hi hz0 hz1 hz2 rfl (by decide) _ 0 [] [] (by simp [Act.eval]) (Own.nil _ _ _) _ l.length _ (by simp [Act.eval]) HL.out (by simp only [maxLen]; omega) (by omega) ?_; intro ao1 cap1 w5 own1 ho1 hin1 hu5; have HO1 := Lib.hid ho1; have HIN1 := Lib.hid hin1; have HU5 := Lib.hid hu5; clear ho1 hin1 hu5)
  go_ret
  refine ⟨ao1, cap1, own1, ?_, ?_, fun k hk => ?_, HU5.out⟩
  · rfl
  · have := HO1.out
    rw [Nat.zero_add, List.nil_append] at this
    exact this
  · rcases HIN1.out k hk with h | h
    · cases h
    · exact h

set_option maxHeartbeats 1000000 in
theorem bkSameInts (l : List Int) (v u : Value) (w : World) (hl : Rd w 1 v l.length (l.flatMap bkCInts)) (hm : Rd w 1 u l.length (l.flatMap bkCInts)) :
    Calls Tryz.prog 20 #[v, u] w fun e w' => e = .returned (.bool true) ∧ ∃ x, w' = w.drewN x := by
  obtain ⟨ao, cap, rfl, h1, h2, -⟩ := id hl
  obtain ⟨bo, cbp, rfl, g1, g2, -⟩ := id hm
  obtain ⟨n, hn⟩ : ∃ n, n = l.length := ⟨_, rfl⟩
  rw [← hn] at h1 hl g1 hm
  rw [← hn]
  have HL := Lib.hid hl
  have HM := Lib.hid hm
  have HN := Lib.hid hn
  simp only [maxLen] at h2 g2
  clear hl hn hm
  go_enter Tryz.func20, Tryz.ntmps20
  go_wp2
  go_loopg [5] n (fun x s5 wr => ∃ k : Nat, k + x = n ∧ s5 = .int .i64 k ∧ ∃ x, wr = w.drewN x)
  case atStart => exact ⟨0, by omega, rfl, 0, rfl⟩
  case round =>
    obtain ⟨k, hk, rfl, nd, rfl⟩ := hrel
    by_cases t : k < n
    · obtain ⟨x, hx⟩ : ∃ x, l[k]? = some x := by
        have := HN.out
        exact ⟨_, List.getElem?_eq_getElem (by omega)⟩
      have hu : Upd [] w (w.drewN nd) := (Upd.refl _ _).drewN _
      obtain ⟨q, rfl, z0, zj⟩ := (HL.out.upd hu).at bkCInts_len hx (by decide)
      have c0 := z0 _ rfl
      clear z0 zj
      rw [Nat.mul_one] at c0
      obtain ⟨q', rfl, z0, zj⟩ := (HM.out.upd hu).at bkCInts_len hx (by decide)
      have d0 := z0 _ rfl
      clear z0 zj
      rw [Nat.mul_one] at d0
      simp only [World.cell?_drewN] at c0 d0
      clear hu hx
      go_wp2
      go_region
      go_wp2
      go_roundg (n - (k + 1))
      case rel => exact ⟨k + 1, by omega, by go_num, nd + 1, rfl⟩
      case measure => omega
    · obtain rfl : k = n := by omega
      go_wp2
      go_ret
      exact ⟨rfl, nd, rfl⟩

set_option maxHeartbeats 1000000 in
theorem bkMarkInts (i k n : Nat) (w : World) (hi : i ≤ 1000) (hk : k ≤ 1000000) (hn : n ≤ 1000000) :
    Calls Tryz.prog 264 #[.int .i64 i, .int .i64 k, .int .i64 n] w (GivesL bkCInts 3 1 (marks bkMInts i k n) w) := by
  obtain ⟨i0, hi0, hz0, hz1, hz2⟩ := info_parts bkIInts
  have HLEN := Lib.hid (marks_length bkMInts i k n)
  obtain ⟨z, hz⟩ : ∃ z : Nat, (k : Int) + (n : Int) = (z : Int) := ⟨k + n, by omega⟩
  have hz' : z = k + n := by omega
  have HZ := Lib.hid hz'
  have hzb : z ≤ 2000000 := by omega
  clear hz'
  go_enter Tryz.func264, Tryz.ntmps264
  go_wp2_with fail
  go_loopg [7, 8] n (fun m s7 s8 wr => ∃ (j x : Nat) (ao : Option Addr) (cap : Nat) (own : List Nat), j + m = n ∧ x = k + j ∧ s7 = .slice ao j cap ∧ s8 = .int .i64 x ∧
    Own wr 3 1 (.slice ao j cap) j ((marks bkMInts i k j).flatMap bkCInts) own ∧ (∀ y ∈ own, w.heap.size ≤ y) ∧ Upd [] w wr)
  case atStart => exact ⟨0, k, none, 0, [], by omega, by omega, rfl, rfl, Own.nil _ _ _, by simp, Upd.refl _ _⟩
  case round =>
    obtain ⟨j, x, ao, cap, own, hj, hx, rfl, rfl, ho, hf, hu⟩ := hrel
    have HO := Lib.hid ho
    have HF := Lib.hid hf
    have HU := Lib.hid hu
    have HX := Lib.hid hx
    have hx2 : x ≤ 1000000000000 := by omega
    have hx3 : x ≤ z := by have := HZ.out; omega
    have hjn : j ≤ n := by omega
    have hjm := Lib.hid hj
    have hsw := hu.size
    by_cases t : x < z
    · have tj : Hid (j < n) := by show j < n; have := HZ.out; omega
      clear ho hf hu hx hj
      go_wp2_with (first
        | (at_builtin; refine wpList_append_Duo _ rfl (.tmp 17) (.tmp 23) 59 rfl 3 i0 _ 1 8 Tryz.underlying59 hi0 hz0 hz1 hz2 rfl (by decide) (.slice ao j cap) j _ own (by simp [Act.eval]) (Own.alloc _ HO.out) ⟨wr.heap.size, 0, none⟩ 1 1 (bkCInts (bkMInts i x)) (by simp [Act.eval]) rfl (World.news_of_block (Blk.new _ _ _)) (by simp [Value.oneCell', bkCInts]) (by decide) (by simp only [maxLen]; omega) (by omega) ?_; intro g off cap1 w4 own1 ho1 hc1; have HO1 := Lib.hid ho1; have HC1 := Lib.hid hc1; clear ho1 hc1))
      go_roundg (n - (j + 1))
      case rel =>
        have hW : Upd [] w (wr.alloc (.cells (bkCInts (bkMInts i x)).toArray 3)) := HU.out.alloc _
        have hx := HX.out
        subst hx
        refine ⟨j + 1, k + j + 1, _, cap1, own1, by have := tj.out; omega, by omega, rfl, by go_num, ?_, fun y hy => ?_, ?_⟩
        · rw [marks_succ, List.flatMap_append, List.flatMap_singleton]
          exact HO1.out
        · rcases HC1.out with ⟨rfl, _⟩ | ⟨h, _⟩
          · exact HF.out y hy
          · exact Nat.le_trans hW.size (h y hy)
        · rcases HC1.out with ⟨_, _, h⟩ | ⟨_, h⟩
          · exact hW.trans' h fun y hy => .inr (HF.out y hy)
          · exact hW.trans h
      case measure => have := hjm.out; have := tj.out; omega
    · have hjz : j = n := by have := HZ.out; have := HX.out; omega
      subst hjz
      clear ho hf hu hx hj
      go_wp2_with fail
      go_ret
      rw [GivesL]
      rw [HLEN.out]
      exact ⟨ao, cap, own, rfl, HO.out, HF.out, HU.out⟩

end Go.Proofs.YtglafpdealjlnaaGreat
