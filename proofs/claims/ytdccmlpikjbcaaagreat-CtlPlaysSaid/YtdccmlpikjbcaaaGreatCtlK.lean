/- The walk of 'Tick'. -/
import Derived.Test.YtdccmlpikjbcaaaGreatCtlA
namespace Go.Proofs.YtdccmlpikjbcaaaGreat
open Go.RowKit
set_option maxRecDepth 100000

set_option maxHeartbeats 1000000 in
theorem tick_any (b : Nat) (c : C) (vw vf : Value) (of : List Nat) (w : World) (hk : c.ok) (hb : Blk w b 81 (c.cells vw vf))
    (ho : Own w 9 1 vf c.flies.length (strs c.flies) of) :
    Calls Tryz.prog 14 #[.pointer (some ⟨b, 0, none⟩)] w fun e w' => e = .returned (.tuple #[]) ∧ Blk w' b 81 (c.tick.cells vw vf) ∧ Upd [b] w w' := by
  have hm := hk.d1
  by_cases t1 : c.dead = true
  · have hc : c.tick = c := by unfold C.tick; rw [if_pos (.inl t1)]
    have HC := Lib.hid hc
    clear hc
    go_enter Tryz.func14, Tryz.ntmps14
    go_wp2_with (go_at_call 22; refine (dead_any b c vw vf _ hb).mono ?_; rintro e w' ⟨rfl, rfl⟩)
    refine bodyPost_ret (results_none rfl _ _ _) rfl ⟨rfl, ?_⟩
    rw [HC.out]
    exact ⟨hb, Upd.refl _ _⟩
  have t1' : c.dead = false := by simpa using t1
  obtain ⟨ao, cap, rfl, hcap, hmx⟩ := ho.shape
  obtain ⟨n, hn⟩ : ∃ n, n = c.flies.length := ⟨_, rfl⟩
  rw [← hn] at hb
  have hf := hb.frozen
  have h2 := hb.cell 2
  have h3 := hb.cell 3
  have h7 := hb.cell 7
  have h8 := hb.cell 8
  have h9 := hb.cell 9
  have h10 := hb.cell 10
  have h11 := hb.cell 11
  have h12 := hb.cell 12
  have h13 := hb.cell 13
  have h15 := hb.cell 15
  simp [C.cells] at h2 h3 h7 h8 h9 h10 h11 h12 h13 h15
  have HB := Lib.hid hb
  have HN := Lib.hid hn
  have a1 := hk.a1
  have a2 := hk.a2
  have b1 := hk.t1
  have b2 := hk.t2
  have e1 := hk.e1
  have e2 := hk.e2
  have k1 := hk.k1
  have k2 := hk.k2
  have r1 := hk.r1
  have r2 := hk.r2
  have w2 := hk.w2
  clear hb ho hk
  by_cases t2 : n = 0
  · have hc : c.tick = c := by unfold C.tick; rw [if_pos (.inr (by rw [← hn]; exact t2))]
    have HC := Lib.hid hc
    clear hc t1 hn
    subst t2
    go_enter Tryz.func14, Tryz.ntmps14
    go_wp2_with (go_at_call 22; refine (dead_any b c vw _ _ HB.out).mono ?_; rintro e w' ⟨rfl, rfl⟩)
    refine bodyPost_ret (results_none rfl _ _ _) rfl ⟨rfl, ?_⟩
    rw [HC.out, ← HN.out]
    exact ⟨HB.out, Upd.refl _ _⟩
  · have t2' : 0 < n := by omega
    have hc : ¬ (c.dead = true ∨ c.flies.length = 0) := by rw [← hn]; simp [t1', t2]
    have HC := Lib.hid hc
    clear hc t1 hn t2
    obtain ⟨SH, hSH, hS1, hS2, hS3⟩ : ∃ x : Int, (if 3 < c.tries then (3 : Int) else c.tries) = x ∧ 0 ≤ x ∧ x ≤ 3 ∧ x = min c.tries 3 := ⟨_, rfl, by split <;> omega, by split <;> omega, by split <;> omega⟩
    obtain ⟨LIM, hL, hL1, hL2, hL3⟩ : ∃ x : Int, RowKit.wrap64 (c.wait * 2 ^ SH.toNat) = x ∧ 1 ≤ x ∧ x ≤ 800 ∧ x = c.wait * 2 ^ (min c.tries 3).toNat := by
      have h1 : 1 ≤ c.wait * 2 ^ SH.toNat ∧ c.wait * 2 ^ SH.toNat ≤ 800 := by
        have : SH.toNat = 0 ∨ SH.toNat = 1 ∨ SH.toNat = 2 ∨ SH.toNat = 3 := by omega
        rcases this with h | h | h | h <;> rw [h] <;> omega
      refine ⟨_, rfl, ?_, ?_, ?_⟩ <;> rw [IntWalk.wrap64_in _ (by omega)]
      · omega
      · omega
      · rw [hS3]
    have HL := Lib.hid hL3
    have HS := Lib.hid hS3
    clear hL3 hS3
    by_cases u1 : c.ticks + 1 < LIM
    · have hc : c.tick = { c with ticks := c.ticks + 1 } := by unfold C.tick; rw [if_neg HC.out, if_pos (by rw [← HL.out]; exact u1)]
      have HT := Lib.hid hc
      clear hc
      go_enter Tryz.func14, Tryz.ntmps14
      go_wp2_with (go_at_call 22; refine (dead_any b c vw _ _ HB.out).mono ?_; rintro e w' ⟨rfl, rfl⟩)
      go_quiet (fail)
      go_wp2
      refine bodyPost_ret (results_none rfl _ _ _) rfl ⟨rfl, ?_⟩
      rw [HT.out, ← HN.out]
      refine ⟨?_, ?_⟩
      · apply Blk.of_eq
        · repeat (with_reducible first | exact HB.out | apply Blk.drewN | apply Blk.drew | apply Blk.set_)
        · rfl
      · repeat (with_reducible first | apply Upd.refl | apply Upd.drewN | apply Upd.drew | (refine Upd.setCell _ ?_ (by simp)))
    by_cases u2 : c.retry ≤ c.tries
    · have hc : c.tick = { c with ticks := c.ticks + 1, dead := true } := by unfold C.tick; rw [if_neg HC.out, if_neg (by rw [← HL.out]; exact u1), if_pos u2]
      have HT := Lib.hid hc
      clear hc
      go_enter Tryz.func14, Tryz.ntmps14
      go_wp2_with (go_at_call 22; refine (dead_any b c vw _ _ HB.out).mono ?_; rintro e w' ⟨rfl, rfl⟩)
      go_quiet (fail)
      go_wp2
      go_quiet (fail)
      go_wp2
      refine bodyPost_ret (results_none rfl _ _ _) rfl ⟨rfl, ?_⟩
      rw [HT.out, ← HN.out]
      refine ⟨?_, ?_⟩
      · apply Blk.of_eq
        · repeat (with_reducible first | exact HB.out | apply Blk.drewN | apply Blk.drew | apply Blk.set_)
        · rfl
      · repeat (with_reducible first | apply Upd.refl | apply Upd.drewN | apply Upd.drew | (refine Upd.setCell _ ?_ (by simp)))
    · have hc : c.tick = { c with tries := c.tries + 1, ticks := 0, again := true, mark := max (c.room / 2) 1, room := 1, count := 0 } := by unfold C.tick; rw [if_neg HC.out, if_neg (by rw [← HL.out]; exact u1), if_neg u2]
      have HT := Lib.hid hc
      clear hc
      obtain ⟨MX, hMX, HM⟩ : ∃ x : Int, (if c.room / 2 < 1 then (1 : Int) else c.room / 2) = x ∧ Hid (x = max (c.room / 2) 1) := ⟨_, rfl, by show _ = _; split <;> omega⟩
      go_enter Tryz.func14, Tryz.ntmps14
      go_wp2_with (go_at_call 22; refine (dead_any b c vw _ _ HB.out).mono ?_; rintro e w' ⟨rfl, rfl⟩)
      go_quiet (fail)
      go_wp2
      go_quiet (fail)
      go_wp2
      go_end0
      refine ⟨rfl, ?_⟩
      rw [HT.out, ← HN.out]
      refine ⟨?_, ?_⟩
      · apply Blk.of_eq
        · repeat (with_reducible first | exact HB.out | apply Blk.drewN | apply Blk.drew | apply Blk.set_)
        · simp [C.cells]; exact HM.out
      · repeat (with_reducible first | apply Upd.refl | apply Upd.drewN | apply Upd.drew | (refine Upd.setCell _ ?_ (by simp)))
end Go.Proofs.YtdccmlpikjbcaaaGreat
