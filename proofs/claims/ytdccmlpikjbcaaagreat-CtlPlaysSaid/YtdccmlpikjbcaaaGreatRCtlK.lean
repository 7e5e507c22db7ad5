/- WRITTEN by wip/gen/rctlk.py. The walk of Tick of the document's channel. -/
import Derived.Test.YtdccmlpikjbcaaaGreatRCtlA
import Derived.Deep.LoopGhost
namespace Go.Proofs.YtdccmlpikjbcaaaGreat
open Go.RowKit
set_option linter.unusedSimpArgs false
set_option linter.unusedVariables false
set_option maxRecDepth 100000

set_option maxHeartbeats 4000000 in
theorem rtick_any (b : Nat) (c : C) (vw : Value) (ao : Option Addr) (n cap : Nat) (w : World) (hn : n = c.flies.length) (hk : c.ok) (hb : Blk w b 74 (c.rcells vw (.slice ao n cap))) :
    Calls Tryz.prog 15 #[.pointer (some ⟨b, 0, none⟩)] w fun e w' => e = .returned (.tuple #[]) ∧ Blk w' b 74 (c.tick.rcells vw (.slice ao n cap)) ∧ Upd [b] w w' := by
  have hf := hb.frozen
  have h2 := hb.cell 2
  have h3 := hb.cell 3
  have h5 := hb.cell 5
  have h8 := hb.cell 8
  have h9 := hb.cell 9
  have h10 := hb.cell 10
  have h11 := hb.cell 11
  have h12 := hb.cell 12
  have h14 := hb.cell 14
  have h15 := hb.cell 15
  simp [C.rcells] at h2 h3 h5 h8 h9 h10 h11 h12 h14 h15
  have HB := Lib.hid hb
  have a1 := hk.a1
  have a2 := hk.a2
  have b1 := hk.t1
  have b2 := hk.t2
  have e1 := hk.e1
  have e2 := hk.e2
  have k1 := hk.k1
  have k2 := hk.k2
  have r1 := hk.r1
  have r2 := hk.r2
  have w2 := hk.w2
  have HN := Lib.hid hn
  have nlt : n ≤ 64 := by have := hk.l2; omega
  clear hb hk
  by_cases t1 : c.dead = true
  · have HC := Lib.hid (show c.tick = c by unfold C.tick; rw [if_pos (.inl t1)])
    go_enter Tryz.func15, Tryz.ntmps15
    go_wp2_with fail
    refine bodyPost_ret (results_none rfl _ _ _) rfl ⟨rfl, ?_⟩
    rw [HC.out]
    exact ⟨HB.out, Upd.refl _ _⟩
  have t1' : c.dead = false := by simpa using t1
  by_cases t2 : n = 0
  · have HC := Lib.hid (show c.tick = c by unfold C.tick; rw [if_pos (.inr (by rw [← hn]; exact t2))])
    clear hn t1
    go_enter Tryz.func15, Tryz.ntmps15
    go_wp2_with fail
    refine bodyPost_ret (results_none rfl _ _ _) rfl ⟨rfl, ?_⟩
    rw [HC.out]
    exact ⟨HB.out, Upd.refl _ _⟩
  have t2' : 0 < n := by omega
  have HC : Hid (¬ (c.dead = true ∨ c.flies.length = 0)) := by show ¬ _; rw [← hn]; simp [t1', t2]
  obtain ⟨M, hM1, hM2, hM3, hM4⟩ : ∃ M : Nat, (M : Int) ≤ c.tries ∧ M ≤ 3 ∧ M = (min c.tries 3).toNat ∧ ((M : Int) = c.tries ∨ M = 3) := ⟨_, by omega, by omega, rfl, by omega⟩
  have HM := Lib.hid hM3
  clear hM3 hn t1 t2
  go_enter Tryz.func15, Tryz.ntmps15
  go_wp2_with fail
  go_loopg [2, 3] M (fun x s2 s3 wr => ∃ k : Nat, ∃ N : Int, k + x = M ∧ s2 = .int .i64 N ∧ s3 = .int .i64 k ∧ N = c.wait * 2 ^ k ∧ Blk wr b 74 (({ c with ticks := c.ticks + 1 } : C).rcells vw (.slice ao n cap)) ∧ Upd [b] w wr)
  case atStart =>
    refine ⟨0, c.wait, by omega, rfl, rfl, by simp, (HB.out.set_ 11 _).of_eq rfl, ?_⟩
    repeat (with_reducible first | apply Upd.refl | apply Upd.drewN | apply Upd.drew | (refine Upd.setCell _ ?_ (by simp)))
  case round =>
    clear hf h2 h3 h5 h8 h9 h10 h11 h12 h14 h15
    obtain ⟨k, N, hkm, rfl, rfl, hN, hb1, hu1⟩ := hrel
    have hf := hb1.frozen
    have h2 := hb1.cell 2
    have h3 := hb1.cell 3
    have h5 := hb1.cell 5
    have h8 := hb1.cell 8
    have h9 := hb1.cell 9
    have h10 := hb1.cell 10
    have h11 := hb1.cell 11
    have h12 := hb1.cell 12
    have h14 := hb1.cell 14
    have h15 := hb1.cell 15
    simp [C.rcells] at h2 h3 h5 h8 h9 h10 h11 h12 h14 h15
    have HB1 := Lib.hid hb1
    have HU1 := Lib.hid hu1
    clear hb1 hu1
    have hN1 : 1 ≤ N ∧ N ≤ 800 ∧ (k < 3 → N ≤ 400) := by
      have : k = 0 ∨ k = 1 ∨ k = 2 ∨ k = 3 := by omega
      rcases this with rfl | rfl | rfl | rfl <;> simp at hN <;> omega
    obtain ⟨n1, n2, n3⟩ := hN1
    have HNN := Lib.hid hN
    clear hN
    by_cases u : k < M
    · have u1 : (k : Int) < c.tries := by omega
      have u2 : (k : Int) < 3 := by omega
      have n4 : N ≤ 400 := n3 (by omega)
      go_wp2_with fail
      go_roundg (gk - 1)
      case rel =>
        refine ⟨k + 1, 2 * N, by omega, rfl, rfl, ?_, HB1.out, HU1.out⟩
        rw [HNN.out, Int.pow_succ]
        rw [Int.mul_left_comm, Int.mul_comm 2]
      case measure => omega
    have hkM : k = M := by omega
    have HL : Hid (N = c.wait * 2 ^ (min c.tries 3).toNat) := by show _ = _; rw [HNN.out, hkM, HM.out]
    have u : ¬ ((k : Int) < c.tries) ∨ ((k : Int) < c.tries ∧ ¬ ((k : Int) < 3)) := by omega
    clear HNN n3
    by_cases v1 : c.ticks + 1 < N
    · have HT : Hid (c.tick = { c with ticks := c.ticks + 1 }) := by show _ = _; unfold C.tick; rw [if_neg HC.out, if_pos (by rw [← HL.out]; exact v1)]
      rcases u with u1 | ⟨u1, u2⟩
      all_goals
        go_wp2_with fail
        refine bodyPost_ret (results_none rfl _ _ _) rfl ⟨rfl, ?_⟩
        rw [HT.out]
        exact ⟨HB1.out, HU1.out⟩
    by_cases v2 : c.retry ≤ c.tries
    · have HT : Hid (c.tick = { c with ticks := c.ticks + 1, dead := true }) := by show _ = _; unfold C.tick; rw [if_neg HC.out, if_neg (by rw [← HL.out]; exact v1), if_pos v2]
      rcases u with u1 | ⟨u1, u2⟩
      all_goals
        go_wp2_with fail
        go_quiet (fail)
        go_wp2_with fail
        (first | go_end0 | refine bodyPost_ret (results_none rfl _ _ _) rfl ?_)
        rw [HT.out]
        refine ⟨rfl, Blk.of_eq (by repeat (with_reducible first | exact HB1.out | apply Blk.drewN | apply Blk.drew | apply Blk.set_)) ?_,
          HU1.out.trans (by repeat (with_reducible first | apply Upd.refl | apply Upd.drewN | apply Upd.drew | (refine Upd.setCell _ ?_ (by simp))))⟩
        rfl
    · have HT : Hid (c.tick = { c with tries := c.tries + 1, ticks := 0, again := true, mark := max (c.room / 2) 1, room := 1, count := 0 }) := by show _ = _; unfold C.tick; rw [if_neg HC.out, if_neg (by rw [← HL.out]; exact v1), if_neg v2]
      by_cases v3 : c.room / 2 < 1
      all_goals
        rcases u with u1 | ⟨u1, u2⟩
      all_goals
        go_wp2_with fail
        go_quiet (fail)
        go_wp2_with fail
        (first | go_end0 | refine bodyPost_ret (results_none rfl _ _ _) rfl ?_)
        rw [HT.out]
        refine ⟨rfl, Blk.of_eq (by repeat (with_reducible first | exact HB1.out | apply Blk.drewN | apply Blk.drew | apply Blk.set_)) ?_,
          HU1.out.trans (by repeat (with_reducible first | apply Upd.refl | apply Upd.drewN | apply Upd.drew | (refine Upd.setCell _ ?_ (by simp))))⟩
        simp [C.rcells]
        try omega
end Go.Proofs.YtdccmlpikjbcaaaGreat
