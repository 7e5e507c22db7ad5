/- The walk of CtlGives. -/
import Derived.Test.YtclodmcdimaccaaCtlV
import Derived.Test.YtclodmcdimaccaaCtlGivesP
namespace Go.Proofs.Ytclodmcdimaccaa
open Go.RowKit

theorem gvRun_bound : ∀ (k : Nat) (p : C × Int), 0 ≤ p.2 → 0 ≤ (gvRun k p).2
  | 0, _, h => h
  | k + 1, p, h => by rw [gvRun]; exact gvRun_bound k _ (by unfold gvStep; simp; omega)
theorem C.outLoop_len : ∀ (n : Nat) (c : C) (l : List Item), (C.outLoop n (c, l)).2.length ≤ l.length + c.waits.length
  | 0, _, _ => by simp [C.outLoop]
  | n + 1, c, l => by
    unfold C.outLoop
    split
    · have h := C.outLoop_len n c.fly (l ++ [c.flyItem])
      have : 0 < c.waits.length := by rename_i h1; exact h1.1
      have hw : c.fly.waits.length = c.waits.length - 1 := by simp [C.fly]
      rw [hw, List.length_append, List.length_singleton] at h
      omega
    · simp
theorem C.out_len {c : C} (h : c.ok) : c.out.2.length ≤ 42 := by
  have h1 := C.outAgain_len h
  have h2 := C.outLoop_len c.waits.length c c.outAgain
  unfold C.out
  split
  · simp
  · unfold C.outEnd
    show (if _ then _ else _ : List Item).length ≤ 42
    split
    · rw [List.length_append]; simp only [List.length_singleton]; omega
    · omega
theorem gvWant_bd (wait : Int) (h1 : 1 ≤ wait) (h2 : wait ≤ 10) : ∀ n, 0 ≤ gvWant n wait ∧ gvWant n wait ≤ 80 * n
  | 0 => by simp [gvWant]
  | n + 1 => by
    have h := gvWant_bd wait h1 h2 n
    have h3 : min n 3 = 0 ∨ min n 3 = 1 ∨ min n 3 = 2 ∨ min n 3 = 3 := by omega
    simp only [gvWant]
    rcases h3 with h3 | h3 | h3 | h3 <;> rw [h3] <;> omega

set_option maxRecDepth 100000 in
set_option maxHeartbeats 2000000 in
theorem ctlGives_walk (retry : Int) (_ : (Lit.int .i64 retry).wf = true) (wait : Int) (_ : (Lit.int .i64 wait).wf = true) (w : World) :
    Calls Try.prog 4 #[.int .i64 retry, .int .i64 wait] w fun e w' => e = .returned (.bool true) ∧ Below w.heap.size w w' := by
  rename_i hw1 hw2
  clear hw1 hw2
  by_cases t1 : retry < 0
  rotate_left
  by_cases t2 : 6 < retry
  rotate_left
  by_cases t3 : wait < 1
  rotate_left
  by_cases t4 : 10 < wait
  rotate_left
  rotate_left 1
  all_goals try
    (go_enter Try.func4, Try.ntmps4
     go_wp2_with fail
     refine (alive_any _).mono ?_
     rintro e w' ⟨rfl, hu⟩
     go_wp2
     go_ret
     exact ⟨rfl, hu.below⟩)
  have b1 : 0 ≤ retry := by omega
  have b2 : retry ≤ 6 := by omega
  have b3 : 1 ≤ wait := by omega
  have b4 : wait ≤ 10 := by omega
  clear t1 t2 t3 t4
  obtain ⟨K, g1, g2, g3, g4, g5⟩ := gv_law retry wait b1 b2 b3 b4
  have NO : Hid (NewOk 4 10 retry wait 0) := by constructor <;> omega
  have e1 : ((C.new 4 10 retry wait 0).send ⟨#[120]⟩).2 = 0 := rfl
  have e2 : ((C.new 4 10 retry wait 0).send ⟨#[120]⟩).1.out.2 = [⟨0, 0, ⟨#[120]⟩⟩] := rfl
  have E := Lib.hid (And.intro e1 (And.intro e2 (And.intro g2 (And.intro g3 (And.intro g4 g5)))))
  clear e1 e2 g2 g3 g4 g5
  go_enter Try.func4, Try.ntmps4
  go_wp2_with fail
  refine (new_at NO.out w).mono ?_
  rintro e w1 ⟨rfl, h1, u1, z1⟩
  go_wp2_with fail
  refine (send_at h1 ⟨#[120]⟩).mono ?_
  rintro e w2 ⟨rfl, ⟨o2, h2, g2⟩, u2⟩
  rw [E.out.1]
  go_wp2_with fail
  refine (out_at h2).mono ?_
  rintro e w3 ⟨⟨v3, p3, rfl, q3, r3⟩, ⟨o3, h3, g3⟩, u3⟩
  have h3 : CtlAt w3 w.heap.size (gvC retry wait) o3 := h3
  rw [E.out.2.1] at q3
  obtain ⟨a3, c3, rfl, _, _⟩ := q3.shape
  have n1 : New w [w.heap.size] := fun k hk => by simp at hk; omega
  have n2 := n1.grew g2 u1.size
  have v2 := u1.new u2 n1
  have n3 := n2.grew g3 v2.size
  have v3 := v2.new u3 n2
  have ST : Hid (∃ own, CtlAt w3 w.heap.size (gvC retry wait) own ∧ New w own ∧ Upd [] w w3) := ⟨_, h3, n3, v3⟩
  clear h1 h2 h3 q3 r3 g2 g3 u1 u2 u3 v2 v3 n1 n2 n3
  go_wp2
  go_loopg [7, 8] K (fun m s7 s8 wr => ∃ k : Nat, k + m = K ∧ s8 = .int .i64 k ∧ s7 = .int .i64 (gvRun k (gvC retry wait, 1)).2 ∧ 0 ≤ (gvRun k (gvC retry wait, 1)).2 ∧ (gvRun k (gvC retry wait, 1)).2 ≤ 1 + 42 * k ∧
    ∃ own, CtlAt wr w.heap.size (gvRun k (gvC retry wait, 1)).1 own ∧ New w own ∧ Upd [] w wr)
  case atStart => exact ⟨0, by omega, rfl, rfl, by simp [gvRun], by simp [gvRun], ST.out⟩
  case round =>
    obtain ⟨k, hk, rfl, rfl, hb1, hb2, own, hc, hn, hu⟩ := hrel
    obtain ⟨nn, hnn⟩ : ∃ x, x = (gvRun k (gvC retry wait, 1)).2 := ⟨_, rfl⟩
    rw [← hnn] at hb1 hb2
    rw [← hnn]
    have HN := Lib.hid hnn
    have HC := Lib.hid hc
    have HM := Lib.hid hk
    clear hnn hc hk ST
    by_cases t : k < K
    · have td : (gvRun k (gvC retry wait, 1)).1.dead = false := E.out.2.2.2.2.2 k t
      have HO : Hid ((gvRun (k + 1) (gvC retry wait, 1)).1 = (gvRun k (gvC retry wait, 1)).1.tick.out.1 ∧ (gvRun (k + 1) (gvC retry wait, 1)).2 = nn + (gvRun k (gvC retry wait, 1)).1.tick.out.2.length) := by
        rw [gvRun_succ, HN.out]
        exact ⟨rfl, rfl⟩
      have HL : (gvRun k (gvC retry wait, 1)).1.tick.out.2.length ≤ 42 := C.out_len (C.tick_ok HC.out.ok)
      obtain ⟨L, hL⟩ : ∃ x, x = (gvRun k (gvC retry wait, 1)).1.tick.out.2.length := ⟨_, rfl⟩
      rw [← hL] at HL
      have HLL := Lib.hid hL
      clear hL
      go_wp2_with fail
      refine (dead_at HC.out).mono ?_
      rintro e w' ⟨rfl, rfl⟩
      rw [td]
      go_wp2_with fail
      refine (tick_at HC.out).mono ?_
      rintro e w4 ⟨rfl, h4, u4⟩
      go_wp2_with fail
      refine (out_at h4).mono ?_
      rintro e w5 ⟨⟨v5, p5, rfl, q5, r5⟩, ⟨o5, h5, g5⟩, u5⟩
      have v4 := hu.new u4 hn
      have ST : Hid (∃ own, CtlAt w5 w.heap.size (gvRun (k + 1) (gvC retry wait, 1)).1 own ∧ New w own ∧ Upd [] w w5) := by
        refine ⟨_, ?_, hn.grew g5 v4.size, v4.new u5 hn⟩
        rw [HO.out.1]; exact h5
      rw [← HLL.out] at q5
      obtain ⟨a5, c5, rfl, _, _⟩ := q5.shape
      clear h4 h5 q5 r5 g5 u4 u5 v4 hn hu
      go_wp2
      go_roundg (K - (k + 1))
      case rel => exact ⟨k + 1, by omega, by go_num, by rw [HO.out.2, HLL.out], by rw [HO.out.2, ← HLL.out]; omega, by rw [HO.out.2, ← HLL.out]; omega, ST.out⟩
      case measure => have := HM.out; omega
    · have hkK : k = K := by have := HM.out; omega
      have td : (gvRun k (gvC retry wait, 1)).1.dead = true := by rw [hkK]; exact E.out.2.2.2.1
      have tn : nn = retry + 1 := by rw [HN.out, hkK]; exact E.out.2.2.2.2.1
      have tw : (k : Int) = gvWant (retry.toNat + 1) wait := by rw [hkK]; exact E.out.2.2.1
      have TN := Lib.hid tn
      have TW := Lib.hid tw
      clear tn tw hkK
      go_wp2_with fail
      refine (dead_at HC.out).mono ?_
      rintro e w' ⟨rfl, rfl⟩
      rw [td]
      go_wp2
      go_loop [9, 10] (fun s9 s10 => ∃ j : Nat, j ≤ retry.toNat + 1 ∧ s10 = .int .i64 j ∧ s9 = .int .i64 (gvWant j wait)) (fun _ i => (retry.toNat + 1) - (intOf i).toNat)
      case atStart => exact ⟨0, by omega, rfl, rfl⟩
      case round =>
        obtain ⟨j, hj, rfl, rfl⟩ := hrel
        obtain ⟨d1, d2⟩ := gvWant_bd wait b3 b4 j
        by_cases tj : (j : Int) ≤ retry
        · obtain ⟨WJ, hWJ⟩ : ∃ x, x = gvWant j wait := ⟨_, rfl⟩
          rw [← hWJ]
          rw [← hWJ] at d1 d2
          have HWJ := Lib.hid hWJ
          clear hWJ
          have HE : Hid (RowKit.wrap64 (WJ + RowKit.wrap64 (wait * 2 ^ (min (j : Int) 3).toNat)) = gvWant (j + 1) wait) := by
            have h1 : (min (j : Int) 3).toNat = min j 3 := by omega
            have h2 : min j 3 = 0 ∨ min j 3 = 1 ∨ min j 3 = 2 ∨ min j 3 = 3 := by omega
            have h3 : 0 ≤ wait * 2 ^ (min j 3) ∧ wait * 2 ^ (min j 3) ≤ 80 := by rcases h2 with h2 | h2 | h2 | h2 <;> rw [h2] <;> omega
            show _ = _
            rw [h1, gvWant, ← HWJ.out, IntWalk.wrap64_in (wait * 2 ^ min j 3) (by omega), IntWalk.wrap64_in _ (by omega)]
          go_wp2
          go_round
          case rel => exact ⟨j + 1, by omega, by go_num, by rw [HE.out]⟩
          case measure => simp [intOf]; omega
        · obtain rfl : j = retry.toNat + 1 := by omega
          rw [← TW.out]
          clear d1 d2
          go_wp2_with fail
          refine (alive_any _).mono ?_
          rintro e w6 ⟨rfl, hu6⟩
          have h6 := HC.out.keep hu6
          have u6 := hu.trans hu6
          go_wp2_with fail
          refine (dead_at h6).mono ?_
          rintro e w' ⟨rfl, rfl⟩
          rw [td]
          rw [TN.out]
          go_wp2_with fail
          refine (send_at h6 ⟨#[121]⟩).mono ?_
          rintro e w7 ⟨rfl, ⟨o7, h7, g7⟩, u7⟩
          have e7 : ((gvRun k (gvC retry wait, 1)).1.send ⟨#[121]⟩).2 = 20 := by unfold C.send; rw [if_pos td]
          rw [e7]
          have HU := Lib.hid (u6.new u7 hn)
          clear h7 g7 u6 u7 hu hu6 h6 e7
          go_wp2
          go_ret
          exact ⟨rfl, HU.out.below⟩
end Go.Proofs.Ytclodmcdimaccaa
