/- WRITTEN by wip/gen/bkkind.py. The book's Options: lent, with a mark behind; do they stay? -/
import Derived.Test.YthkfgjmifoeljaaGreatBkOptionsA
import Derived.Test.YthkfgjmifoeljaaGreatCuts
namespace Go.Proofs.YthkfgjmifoeljaaGreat
open Go.RowKit
set_option linter.unusedSimpArgs false
set_option linter.unusedVariables false
set_option maxRecDepth 100000

def bkLOptions : List Value := [.int .i64 (-77), .string ⟨#[]⟩]
theorem bkZOptions (W : World) : (sizeOf (Tryz.prog.elem 22)).run Tryz.prog W = .ok 2 W := by kernel_rfl
set_option maxHeartbeats 1000000 in
theorem bkLentOptions (l : List Tg) (v : Value) (w : World) (hl : Rd w 2 v l.length (l.flatMap bkCOptions)) (hn : l.length ≤ 1000000) :
    Calls Tryz.prog 6 #[v] w (GivesLent bkCOptions 67 2 bkLOptions l w) := by
  obtain ⟨i0, hi, hz0, hz1, hz2⟩ := info_parts bkIOptions
  obtain ⟨n, hn2⟩ : ∃ n, n = l.length := ⟨_, rfl⟩
  obtain ⟨ao, cap, rfl, h1, h2, -⟩ := id hl
  rw [← hn2] at hl hn h1
  rw [← hn2]
  simp only [maxLen] at h2
  have HN := Lib.hid hn2
  have HL := Lib.hid hl
  clear hl hn2
  go_enter Tryz.func6, Tryz.ntmps6
  go_wp2_with (first
    | (at_builtin; refine wpList_append_Rd _ rfl (.const (.slice none 0 0)) (.tmp 3) 22 rfl 67 i0 _ 2 24 Tryz.underlying22 hi hz0 hz1 hz2 rfl (by decide) _ 0 [] [] (by simp [Act.eval]) (Own.nil _ _ _) _ n _ (by simp [Act.eval]) HL.out (by simp only [maxLen]; omega) (by omega) ?_; intro ao1 cap1 w5 own1 ho1 hin1 hu5; rw [Nat.zero_add] at ho1; rw [Nat.zero_add]; rw [List.nil_append] at ho1; have HO1 := Lib.hid ho1; have HIN1 := Lib.hid hin1; have HU5 := Lib.hid hu5; clear ho1 hin1 hu5)
    | (at_builtin; refine wpList_append_Own _ rfl (.tmp 4) (.tmp 6) 22 rfl 67 i0 _ 2 24 Tryz.underlying22 hi hz0 hz1 hz2 rfl (by decide) (.slice ao1 n cap1) n _ own1 (by simp [Act.eval]) (Own.alloc _ HO1.out) ⟨w5.heap.size, 0, none⟩ 1 1 bkLOptions (by simp [Act.eval]) rfl (World.news_of_block (Blk.new _ _ _)) (by simp [Value.oneCell', bkLOptions]) (by decide) (by simp only [maxLen]; omega) (by omega) ?_; intro g off cap2 w6 own2 ho2 hin2 hu6; have HO2 := Lib.hid ho2; have HIN2 := Lib.hid hin2; have HU6 := Lib.hid hu6; have hsh : n + 1 ≤ cap2 := (by obtain ⟨x, c', e1, k1, k2⟩ := ho2.shape; injection e1 with _ _ e1; subst e1; exact k1); have hsl := run_prefix (P := Tryz.prog) 22 Tryz.underlying22 2 bkZOptions (some ⟨g, off, none⟩) (n + 1) cap2 n (by omega); clear ho2 hin2 hu6))
  go_ret
  have ho := HO2.out
  rw [HN.out] at ho
  have hf1 : ∀ k ∈ own1, w.heap.size ≤ k := fun k hk => by
    rcases HIN1.out k hk with h | h
    · cases h
    · exact h
  refine ⟨_, own2, rfl, ⟨g, off, cap2, by rw [← HN.out]; rfl, ho⟩, fun k hk => ?_, ?_⟩
  · rcases HIN2.out k hk with h | h
    · exact hf1 k h
    · have h7 : w5.heap.size ≤ k := Nat.le_trans (by simp) h
      exact Nat.le_trans HU5.out.size h7
  · exact (HU5.out.alloc _).trans' HU6.out fun x hx => .inr (hf1 x hx)

set_option maxHeartbeats 1000000 in
theorem bkStaysOptions (l : List Tg) (v u : Value) (own : List Nat) (w : World) (hv : LentAt bkCOptions 67 2 bkLOptions w v l own) (hl : Rd w 2 u l.length (l.flatMap bkCOptions)) :
    Calls Tryz.prog 27 #[v, u] w fun e w' => e = .returned (.bool true) ∧ Upd [] w w' := by
  have ho := hv.own bkCOptions_len
  obtain ⟨g, off, cap, rfl, hm⟩ := hv
  obtain ⟨nb, hn⟩ : ∃ n, n = l.length := ⟨_, rfl⟩
  have hsh : nb + 1 ≤ cap ∧ cap ≤ maxLen := by
    obtain ⟨x, c', e1, k1, k2⟩ := hm.shape
    injection e1 with _ _ e1
    subst e1
    rw [hn]
    exact ⟨k1, k2⟩
  obtain ⟨q1, q2⟩ := hsh
  simp only [maxLen] at q2
  obtain ⟨q, hq⟩ : ∃ q, q = (⟨g, off, none⟩ : Addr) := ⟨_, rfl⟩
  have hcell : ∀ W, Upd [] w W → W.cell? (q.add (nb * 2)) = some (.int .i64 (-77)) := by
    intro W hu
    obtain ⟨g', off', cap', e1, -, -, -, hc⟩ := (hm.updD hu).form (by omega)
    injection e1 with e1 _ _
    injection e1 with e1
    injection e1 with e1 e2
    subst e1 e2
    have h3 : (l.flatMap bkCOptions ++ bkLOptions)[nb * 2 + 0]? = some (.int .i64 (-77)) := by
      rw [List.getElem?_append_right (by rw [flat_length bkCOptions_len, hn]; omega), flat_length bkCOptions_len, hn, show l.length * 2 + 0 - l.length * 2 = 0 by omega]
      rfl
    have h4 := hc _ _ h3
    rw [hq, add_plain']
    rw [Nat.add_zero] at h4
    exact h4
  rw [← hq]
  rw [← hn]
  rw [← hq, ← hn] at ho
  rw [← hn] at hl
  obtain ⟨ub, uc, rfl, u1, u2, -⟩ := id hl
  simp only [maxLen] at u2
  have HR := Lib.hid (ho.rdB (bkCOptions_one l))
  have HL := Lib.hid hl
  have HN := Lib.hid hn
  have HC := Lib.hid hcell
  have hsl := run_prefix (P := Tryz.prog) 22 Tryz.underlying22 2 bkZOptions (some q) nb cap (nb + 1) q1
  rw [show ((nb + 1 : Nat) : Int) = (nb : Int) + 1 by omega] at hsl
  clear ho hm hl hn hq hcell
  go_enter Tryz.func27, Tryz.ntmps27
  go_wp2_with (go_at_call 20; refine (bkSameOptions l _ _ _ (by rw [← HN.out]; exact HR.out) (by rw [← HN.out]; exact HL.out)).mono ?_; rintro e w1 ⟨rfl, x, rfl⟩; have c0 := HC.out _ ((Upd.refl _ w).drewN x); simp only [World.cell?_drewN] at c0)
  go_ret
  exact ⟨rfl, (Upd.refl _ _).drewN _⟩
end Go.Proofs.YthkfgjmifoeljaaGreat
