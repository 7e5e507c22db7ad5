/- WRITTEN by wip/gen/bkkind.py. The book's Avps: copies, comparisons, marks. WRITTEN by wip/gen/bkkind.py. The book's Avps: lent, with a mark behind; do they stay? -/
import Derived.Test.YtglafpdealjlnaaGreatProg
import Derived.Test.YtglafpdealjlnaaGreatQBkNil
import Derived.Test.YtglafpdealjlnaaGreatQLib
import Derived.Test.YtglafpdealjlnaaGreatQCuts
namespace Go.Proofs.YtglafpdealjlnaaGreat
open Go.RowKit
set_option linter.unusedSimpArgs false
set_option linter.unusedVariables false
set_option maxRecDepth 100000

def bkCAvps (x : Av) : List Value := [.bool x.must, .bool x.hidden, .int .i64 x.vendor, .int .i64 x.kind, .string x.val]
theorem bkCAvps_len (x : Av) : (bkCAvps x).length = 5 := rfl
theorem bkCAvps_one (l : List Av) : ∀ u ∈ l.flatMap bkCAvps, u.oneCell' = true := by
  intro u hu
  obtain ⟨x, _, hu⟩ := List.mem_flatMap.1 hu
  simp [bkCAvps] at hu
  rcases hu with rfl | rfl | rfl | rfl | rfl <;> rfl
def bkMAvps (i k : Nat) : Av := ⟨false, false, 0, -1 - (i : Int), nm i k⟩
theorem bkIAvps : (Tryz.prog.info? 85).map (fun i => (i.zero, i.size, i.bytes)) = some (some (.agg #[.bool false, .bool false, .int .i64 0, .int .i64 0, .string ⟨#[]⟩]), 5, 40) := by kernel_rfl
theorem bkOAvps : (Tryz.prog.info? 22).map (fun i => (i.zero, i.size, i.bytes)) = some (some (.slice none 0 0), 1, 24) := by kernel_rfl

set_option maxHeartbeats 1000000 in
theorem bkCopyAvps (l : List Av) (v : Value) (w : World) (hl : Rd w 5 v l.length (l.flatMap bkCAvps)) (hn : l.length ≤ 1000000) :
    Calls Tryz.prog 97 #[v] w (GivesL bkCAvps 85 5 l w) := by
  obtain ⟨i0, hi, hz0, hz1, hz2⟩ := info_parts bkIAvps
  have HL := Lib.hid hl
  clear hl
  go_enter Tryz.func97, Tryz.ntmps97
  go_wp2_with (at_builtin; refine wpList_append_Rd _ rfl (.const (.slice none 0 0)) (.tmp 3) 22 rfl 85 i0 _ 5 40 Tryz.underlying22 hi hz0 hz1 hz2 rfl (by decide) _ 0 [] [] (by simp [Act.eval]) (Own.nil _ _ _) _ l.length _ (by simp [Act.eval]) HL.out (by simp only [maxLen]; omega) (by omega) ?_; intro ao1 cap1 w5 own1 ho1 hin1 hu5; have HO1 := Lib.hid ho1; have HIN1 := Lib.hid hin1; have HU5 := Lib.hid hu5; clear ho1 hin1 hu5)
  go_ret
  refine ⟨ao1, cap1, own1, ?_, ?_, fun k hk => ?_, HU5.out⟩
  · rfl
  · have := HO1.out
    rw [Nat.zero_add, List.nil_append] at this
    exact this
  · rcases HIN1.out k hk with h | h
    · cases h
    · exact h

set_option maxHeartbeats 1000000 in
theorem bkSameAvps (l : List Av) (v u : Value) (w : World) (hl : Rd w 5 v l.length (l.flatMap bkCAvps)) (hm : Rd w 5 u l.length (l.flatMap bkCAvps)) :
    Calls Tryz.prog 22 #[v, u] w fun e w' => e = .returned (.bool true) ∧ ∃ x, w' = w.drewN x := by
  obtain ⟨ao, cap, rfl, h1, h2, -⟩ := id hl
  obtain ⟨bo, cbp, rfl, g1, g2, -⟩ := id hm
  obtain ⟨n, hn⟩ : ∃ n, n = l.length := ⟨_, rfl⟩
  rw [← hn] at h1 hl g1 hm
  rw [← hn]
  have HL := Lib.hid hl
  have HM := Lib.hid hm
  have HN := Lib.hid hn
  simp only [maxLen] at h2 g2
  clear hl hn hm
  go_enter Tryz.func22, Tryz.ntmps22
  go_wp2
  go_loopg [5] n (fun x s5 wr => ∃ k : Nat, k + x = n ∧ s5 = .int .i64 k ∧ ∃ x, wr = w.drewN x)
  case atStart => exact ⟨0, by omega, rfl, 0, rfl⟩
  case round =>
    obtain ⟨k, hk, rfl, nd, rfl⟩ := hrel
    by_cases t : k < n
    · obtain ⟨x, hx⟩ : ∃ x, l[k]? = some x := by
        have := HN.out
        exact ⟨_, List.getElem?_eq_getElem (by omega)⟩
      have hu : Upd [] w (w.drewN nd) := (Upd.refl _ _).drewN _
      obtain ⟨q, rfl, z0, zj⟩ := (HL.out.upd hu).at bkCAvps_len hx (by decide)
      have c0 := z0 _ rfl
      have c1 := zj 1 _ (by omega) rfl
      have c2 := zj 2 _ (by omega) rfl
      have c3 := zj 3 _ (by omega) rfl
      have c4 := zj 4 _ (by omega) rfl
      clear z0 zj
      obtain ⟨q', rfl, z0, zj⟩ := (HM.out.upd hu).at bkCAvps_len hx (by decide)
      have d0 := z0 _ rfl
      have d1 := zj 1 _ (by omega) rfl
      have d2 := zj 2 _ (by omega) rfl
      have d3 := zj 3 _ (by omega) rfl
      have d4 := zj 4 _ (by omega) rfl
      clear z0 zj
      simp only [World.cell?_drewN] at c0 d0 c1 d1 c2 d2 c3 d3 c4 d4
      clear hu hx
      go_wp2
      go_region
      go_wp2
      go_roundg (n - (k + 1))
      case rel => exact ⟨k + 1, by omega, by go_num, nd + 1, rfl⟩
      case measure => omega
    · obtain rfl : k = n := by omega
      go_wp2
      go_ret
      exact ⟨rfl, nd, rfl⟩

set_option maxHeartbeats 1000000 in
theorem bkMarkAvps (i k n : Nat) (w : World) (hi : i ≤ 1000) (hk : k ≤ 1000000) (hn : n ≤ 1000000) :
    Calls Tryz.prog 268 #[.int .i64 i, .int .i64 k, .int .i64 n] w (GivesL bkCAvps 85 5 (marks bkMAvps i k n) w) := by
  obtain ⟨i0, hi0, hz0, hz1, hz2⟩ := info_parts bkIAvps
  have HLEN := Lib.hid (marks_length bkMAvps i k n)
  obtain ⟨z, hz⟩ : ∃ z : Nat, (k : Int) + (n : Int) = (z : Int) := ⟨k + n, by omega⟩
  have hz' : z = k + n := by omega
  have HZ := Lib.hid hz'
  have hzb : z ≤ 2000000 := by omega
  clear hz'
  go_enter Tryz.func268, Tryz.ntmps268
  go_wp2_with fail
  go_loopg [7, 8] n (fun m s7 s8 wr => ∃ (j x : Nat) (ao : Option Addr) (cap : Nat) (own : List Nat), j + m = n ∧ x = k + j ∧ s7 = .slice ao j cap ∧ s8 = .int .i64 x ∧
    Own wr 85 5 (.slice ao j cap) j ((marks bkMAvps i k j).flatMap bkCAvps) own ∧ (∀ y ∈ own, w.heap.size ≤ y) ∧ Upd [] w wr)
  case atStart => exact ⟨0, k, none, 0, [], by omega, by omega, rfl, rfl, Own.nil _ _ _, by simp, Upd.refl _ _⟩
  case round =>
    obtain ⟨j, x, ao, cap, own, hj, hx, rfl, rfl, ho, hf, hu⟩ := hrel
    have HO := Lib.hid ho
    have HF := Lib.hid hf
    have HU := Lib.hid hu
    have HX := Lib.hid hx
    have hx2 : x ≤ 1000000000000 := by omega
    have hx3 : x ≤ z := by have := HZ.out; omega
    have hjn : j ≤ n := by omega
    have hjm := Lib.hid hj
    have hsw := hu.size
    by_cases t : x < z
    · have tj : Hid (j < n) := by show j < n; have := HZ.out; omega
      clear ho hf hu hx hj
      go_wp2_with (first
        | (go_at_call 311; refine (name_any i x hi hx2 _).mono ?_; rintro e w3 ⟨rfl, hu3⟩; have HU3 := Lib.hid hu3; have hz3 := hu3.size; clear hu3) | (at_builtin; refine wpList_append_Duo _ rfl (.tmp 17) (.tmp 24) 22 rfl 85 i0 _ 5 40 Tryz.underlying22 hi0 hz0 hz1 hz2 rfl (by decide) (.slice ao j cap) j _ own (by simp [Act.eval]) (Own.alloc _ (HO.out.updD HU3.out)) ⟨w3.heap.size, 0, none⟩ 1 1 (bkCAvps (bkMAvps i x)) (by simp [Act.eval]) rfl (World.news_of_block (Blk.new _ _ _)) (by simp [Value.oneCell', bkCAvps]) (by decide) (by simp only [maxLen]; omega) (by omega) ?_; intro g off cap1 w4 own1 ho1 hc1; have HO1 := Lib.hid ho1; have HC1 := Lib.hid hc1; clear ho1 hc1))
      go_roundg (n - (j + 1))
      case rel =>
        have hW : Upd [] w (w3.alloc (.cells (bkCAvps (bkMAvps i x)).toArray 85)) := (HU.out.trans HU3.out).alloc _
        have hx := HX.out
        subst hx
        refine ⟨j + 1, k + j + 1, _, cap1, own1, by have := tj.out; omega, by omega, rfl, by go_num, ?_, fun y hy => ?_, ?_⟩
        · rw [marks_succ, List.flatMap_append, List.flatMap_singleton]
          exact HO1.out
        · rcases HC1.out with ⟨rfl, _⟩ | ⟨h, _⟩
          · exact HF.out y hy
          · exact Nat.le_trans hW.size (h y hy)
        · rcases HC1.out with ⟨_, _, h⟩ | ⟨_, h⟩
          · exact hW.trans' h fun y hy => .inr (HF.out y hy)
          · exact hW.trans h
      case measure => have := hjm.out; have := tj.out; omega
    · have hjz : j = n := by have := HZ.out; have := HX.out; omega
      subst hjz
      clear ho hf hu hx hj
      go_wp2_with fail
      go_ret
      rw [GivesL]
      rw [HLEN.out]
      exact ⟨ao, cap, own, rfl, HO.out, HF.out, HU.out⟩

end Go.Proofs.YtglafpdealjlnaaGreat
namespace Go.Proofs.YtglafpdealjlnaaGreat
open Go.RowKit
set_option linter.unusedSimpArgs false
set_option linter.unusedVariables false
set_option maxRecDepth 100000

def bkLAvps : List Value := [.bool false, .bool false, .int .i64 0, .int .i64 (-77), .string ⟨#[]⟩]
theorem bkZAvps (W : World) : (sizeOf (Tryz.prog.elem 22)).run Tryz.prog W = .ok 5 W := by kernel_rfl
set_option maxHeartbeats 1000000 in
theorem bkLentAvps (l : List Av) (v : Value) (w : World) (hl : Rd w 5 v l.length (l.flatMap bkCAvps)) (hn : l.length ≤ 1000000) :
    Calls Tryz.prog 8 #[v] w (GivesLent bkCAvps 85 5 bkLAvps l w) := by
  obtain ⟨i0, hi, hz0, hz1, hz2⟩ := info_parts bkIAvps
  obtain ⟨n, hn2⟩ : ∃ n, n = l.length := ⟨_, rfl⟩
  obtain ⟨ao, cap, rfl, h1, h2, -⟩ := id hl
  rw [← hn2] at hl hn h1
  rw [← hn2]
  simp only [maxLen] at h2
  have HN := Lib.hid hn2
  have HL := Lib.hid hl
  clear hl hn2
  go_enter Tryz.func8, Tryz.ntmps8
  go_wp2_with (first
    | (at_builtin; refine wpList_append_Rd _ rfl (.const (.slice none 0 0)) (.tmp 3) 22 rfl 85 i0 _ 5 40 Tryz.underlying22 hi hz0 hz1 hz2 rfl (by decide) _ 0 [] [] (by simp [Act.eval]) (Own.nil _ _ _) _ n _ (by simp [Act.eval]) HL.out (by simp only [maxLen]; omega) (by omega) ?_; intro ao1 cap1 w5 own1 ho1 hin1 hu5; rw [Nat.zero_add] at ho1; rw [Nat.zero_add]; rw [List.nil_append] at ho1; have HO1 := Lib.hid ho1; have HIN1 := Lib.hid hin1; have HU5 := Lib.hid hu5; clear ho1 hin1 hu5)
    | (at_builtin; refine wpList_append_Own _ rfl (.tmp 4) (.tmp 6) 22 rfl 85 i0 _ 5 40 Tryz.underlying22 hi hz0 hz1 hz2 rfl (by decide) (.slice ao1 n cap1) n _ own1 (by simp [Act.eval]) (Own.alloc _ HO1.out) ⟨w5.heap.size, 0, none⟩ 1 1 bkLAvps (by simp [Act.eval]) rfl (World.news_of_block (Blk.new _ _ _)) (by simp [Value.oneCell', bkLAvps]) (by decide) (by simp only [maxLen]; omega) (by omega) ?_; intro g off cap2 w6 own2 ho2 hin2 hu6; have HO2 := Lib.hid ho2; have HIN2 := Lib.hid hin2; have HU6 := Lib.hid hu6; have hsh : n + 1 ≤ cap2 := (by obtain ⟨x, c', e1, k1, k2⟩ := ho2.shape; injection e1 with _ _ e1; subst e1; exact k1); have hsl := run_prefix (P := Tryz.prog) 22 Tryz.underlying22 5 bkZAvps (some ⟨g, off, none⟩) (n + 1) cap2 n (by omega); clear ho2 hin2 hu6))
  go_ret
  have ho := HO2.out
  rw [HN.out] at ho
  have hf1 : ∀ k ∈ own1, w.heap.size ≤ k := fun k hk => by
    rcases HIN1.out k hk with h | h
    · cases h
    · exact h
  refine ⟨_, own2, rfl, ⟨g, off, cap2, by rw [← HN.out]; rfl, ho⟩, fun k hk => ?_, ?_⟩
  · rcases HIN2.out k hk with h | h
    · exact hf1 k h
    · have h7 : w5.heap.size ≤ k := Nat.le_trans (by simp) h
      exact Nat.le_trans HU5.out.size h7
  · exact (HU5.out.alloc _).trans' HU6.out fun x hx => .inr (hf1 x hx)

set_option maxHeartbeats 1000000 in
theorem bkStaysAvps (l : List Av) (v u : Value) (own : List Nat) (w : World) (hv : LentAt bkCAvps 85 5 bkLAvps w v l own) (hl : Rd w 5 u l.length (l.flatMap bkCAvps)) :
    Calls Tryz.prog 24 #[v, u] w fun e w' => e = .returned (.bool true) ∧ Upd [] w w' := by
  have ho := hv.own bkCAvps_len
  obtain ⟨g, off, cap, rfl, hm⟩ := hv
  obtain ⟨nb, hn⟩ : ∃ n, n = l.length := ⟨_, rfl⟩
  have hsh : nb + 1 ≤ cap ∧ cap ≤ maxLen := by
    obtain ⟨x, c', e1, k1, k2⟩ := hm.shape
    injection e1 with _ _ e1
    subst e1
    rw [hn]
    exact ⟨k1, k2⟩
  obtain ⟨q1, q2⟩ := hsh
  simp only [maxLen] at q2
  obtain ⟨q, hq⟩ : ∃ q, q = (⟨g, off, none⟩ : Addr) := ⟨_, rfl⟩
  have hcell : ∀ W, Upd [] w W → W.cell? (⟨(q.add (nb * 5)).block, (q.add (nb * 5)).off + 3, none⟩) = some (.int .i64 (-77)) := by
    intro W hu
    obtain ⟨g', off', cap', e1, -, -, -, hc⟩ := (hm.updD hu).form (by omega)
    injection e1 with e1 _ _
    injection e1 with e1
    injection e1 with e1 e2
    subst e1 e2
    have h3 : (l.flatMap bkCAvps ++ bkLAvps)[nb * 5 + 3]? = some (.int .i64 (-77)) := by
      rw [List.getElem?_append_right (by rw [flat_length bkCAvps_len, hn]; omega), flat_length bkCAvps_len, hn, show l.length * 5 + 3 - l.length * 5 = 3 by omega]
      rfl
    have h4 := hc _ _ h3
    rw [hq, add_plain']
    show W.cell? ⟨g, off + nb * 5 + 3, none⟩ = _
    rw [Nat.add_assoc]
    exact h4
  rw [← hq]
  rw [← hn]
  rw [← hq, ← hn] at ho
  rw [← hn] at hl
  obtain ⟨ub, uc, rfl, u1, u2, -⟩ := id hl
  simp only [maxLen] at u2
  have HR := Lib.hid (ho.rdB (bkCAvps_one l))
  have HL := Lib.hid hl
  have HN := Lib.hid hn
  have HC := Lib.hid hcell
  have hsl := run_prefix (P := Tryz.prog) 22 Tryz.underlying22 5 bkZAvps (some q) nb cap (nb + 1) q1
  rw [show ((nb + 1 : Nat) : Int) = (nb : Int) + 1 by omega] at hsl
  clear ho hm hl hn hq hcell
  go_enter Tryz.func24, Tryz.ntmps24
  go_wp2_with (go_at_call 22; refine (bkSameAvps l _ _ _ (by rw [← HN.out]; exact HR.out) (by rw [← HN.out]; exact HL.out)).mono ?_; rintro e w1 ⟨rfl, x, rfl⟩; have c0 := HC.out _ ((Upd.refl _ w).drewN x); simp only [World.cell?_drewN] at c0)
  go_ret
  exact ⟨rfl, (Upd.refl _ _).drewN _⟩
end Go.Proofs.YtglafpdealjlnaaGreat
