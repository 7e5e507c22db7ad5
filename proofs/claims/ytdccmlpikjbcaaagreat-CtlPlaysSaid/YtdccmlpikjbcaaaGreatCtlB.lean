/- The walk of 'acked'. -/
import Derived.Test.YtdccmlpikjbcaaaGreatCtlA
import Derived.Deep.LoopGhost
namespace Go.Proofs.YtdccmlpikjbcaaaGreat
open Go.RowKit
set_option maxRecDepth 100000

theorem C.grow_ok {c : C} (h : c.ok) : c.grow.ok := by
  obtain ⟨h1, h2, h3, h4, h5, h6, h7, h8, h9, h10, h11, h12, h13, h14, h15, h16, h17, h18, h19, h20, h21, h22, h23, h24, h25, h26⟩ := h
  unfold C.grow
  (repeat' split) <;> constructor <;> (try simp) <;> first | omega | assumption
theorem C.pop_ok' {c : C} (h : c.ok) : ({ c with flies := c.flies.tail, tries := 0, ticks := 0, again := false } : C).ok := by
  obtain ⟨h1, h2, h3, h4, h5, h6, h7, h8, h9, h10, h11, h12, h13, h14, h15, h16, h17, h18, h19, h20, h21, h22, h23, h24, h25, h26⟩ := h
  constructor <;> (try simp) <;> first | omega | assumption
theorem C.pop_ok {c : C} (h : c.ok) : c.pop.ok := C.grow_ok (C.pop_ok' h)
theorem C.grow_flies (c : C) : c.grow.flies = c.flies := by unfold C.grow; (repeat' split) <;> rfl
theorem C.grow_waits (c : C) : c.grow.waits = c.waits := by unfold C.grow; (repeat' split) <;> rfl
theorem C.pop_flies (c : C) : c.pop.flies = c.flies.tail := by unfold C.pop; rw [C.grow_flies]
theorem C.pop_waits (c : C) : c.pop.waits = c.waits := by unfold C.pop; rw [C.grow_waits]
theorem C.ackLoop_ok (nr : Int) : ∀ (n : Nat) (c : C), c.ok → (C.ackLoop nr n c).ok
  | 0, _, h => h
  | n + 1, c, h => by
    unfold C.ackLoop
    split
    · exact C.ackLoop_ok nr n _ (C.pop_ok h)
    · exact h
theorem C.acked_ok {c : C} (h : c.ok) (nr : Int) : (c.acked nr).ok := by
  unfold C.acked
  split
  · exact h
  · exact C.ackLoop_ok nr _ _ h
theorem C.ackLoop_waits (nr : Int) : ∀ (n : Nat) (c : C), (C.ackLoop nr n c).waits = c.waits
  | 0, _ => rfl
  | n + 1, c => by
    unfold C.ackLoop
    split
    · rw [C.ackLoop_waits nr n, C.pop_waits]
    · rfl
theorem C.ackLoop_stop (nr : Int) (n : Nat) {c : C} (h : ¬ (0 < c.flies.length ∧ bef c.first nr = true)) : C.ackLoop nr n c = c := by
  cases n with
  | zero => rfl
  | succ n => rw [C.ackLoop, if_neg h]
theorem C.acked_waits (c : C) (nr : Int) : (c.acked nr).waits = c.waits := by
  unfold C.acked
  split
  · rfl
  · exact C.ackLoop_waits nr _ _

set_option maxHeartbeats 1000000 in
theorem acked_any (b : Nat) (c : C) (vw vf : Value) (nr : Int) (of : List Nat) (w : World) (hk : c.ok) (hb : Blk w b 81 (c.cells vw vf))
    (hf : Own w 9 1 vf c.flies.length (strs c.flies) of) :
    Calls Tryz.prog 31 #[.pointer (some ⟨b, 0, none⟩), .int .i64 nr] w fun e w' => e = .returned (.tuple #[]) ∧
      ∃ vf', Blk w' b 81 ((c.acked nr).cells vw vf') ∧ Own w' 9 1 vf' (c.acked nr).flies.length (strs (c.acked nr).flies) of ∧ Upd [b] w w' := by
  obtain ⟨ao, cap, rfl, hcap, hmx⟩ := hf.shape
  obtain ⟨n, hn⟩ : ∃ n, n = c.flies.length := ⟨_, rfl⟩
  have hl2 := hk.l2
  rw [← hn] at hb hcap hl2
  have HO := Lib.hid hf
  have HB := Lib.hid hb
  have HN := Lib.hid hn
  have h4 := hb.cell 4
  simp [C.cells] at h4
  have s1 := hk.s1
  have s2 := hk.s2
  have f1 : 0 ≤ c.first ∧ c.first < 65536 := by unfold C.first; omega
  have HK := Lib.hid hk
  clear hf hb hn hk
  by_cases t1 : bef nr c.first = true
  · have HG : Hid (c.acked nr = c) := by show _ = _; unfold C.acked; rw [if_pos (.inl t1)]
    go_enter Tryz.func31, Tryz.ntmps31
    go_wp2_with first
      | (go_at_call 38; refine (first_any b c vw ao n cap _ HN.out (by omega) HB.out).mono ?_; rintro e w' ⟨rfl, k, rfl⟩)
      | (go_at_call 27; refine (before_any _ _ _).mono ?_; rintro e w' ⟨rfl, rfl⟩)
    refine bodyPost_ret (results_none rfl _ _ _) rfl ⟨rfl, ?_⟩
    rw [HG.out, ← HN.out]
    exact ⟨_, HB.out.drewN k, (HN.out ▸ HO.out).drewN k, (Upd.refl _ _).drewN k⟩
  · have t1 : bef nr c.first = false := by simpa using t1
    by_cases t2 : bef c.sent nr = true
    · have HG : Hid (c.acked nr = c) := by show _ = _; unfold C.acked; rw [if_pos (.inr t2)]
      go_enter Tryz.func31, Tryz.ntmps31
      go_wp2_with first
        | (go_at_call 38; refine (first_any b c vw ao n cap _ HN.out (by omega) HB.out).mono ?_; rintro e w' ⟨rfl, k, rfl⟩)
        | (go_at_call 27; refine (before_any _ _ _).mono ?_; rintro e w' ⟨rfl, rfl⟩)
      refine bodyPost_ret (results_none rfl _ _ _) rfl ⟨rfl, ?_⟩
      rw [HG.out, ← HN.out]
      exact ⟨_, HB.out.drewN k, (HN.out ▸ HO.out).drewN k, (Upd.refl _ _).drewN k⟩
    · have t2 : bef c.sent nr = false := by simpa using t2
      have HG : Hid (c.acked nr = C.ackLoop nr c.flies.length c) := by show _ = _; unfold C.acked; rw [if_neg (by simp [t1, t2])]
      go_enter Tryz.func31, Tryz.ntmps31
      go_wp2_with first
        | (go_at_call 38; refine (first_any b c vw ao n cap _ HN.out (by omega) HB.out).mono ?_; rintro e w' ⟨rfl, k, rfl⟩)
        | (go_at_call 27; refine (before_any _ _ _).mono ?_; rintro e w' ⟨rfl, rfl⟩)
      go_loopg [] c.flies.length (fun m wr => ∃ c1 vf1, c1.ok ∧ C.ackLoop nr m c1 = c.acked nr ∧ c1.flies.length ≤ m ∧ Blk wr b 81 (c1.cells vw vf1) ∧ Own wr 9 1 vf1 c1.flies.length (strs c1.flies) of ∧ Upd [b] w wr)
      case atStart => exact ⟨c, _, HK.out, HG.out.symm, Nat.le_refl _, HN.out ▸ HB.out.drewN k, HO.out.drewN k, (Upd.refl _ _).drewN k⟩
      case round =>
        obtain ⟨c1, vf1, hk1, ha1, hm1, hb1, ho1, hu1⟩ := hrel
        clear t1 t2 h4 HB HN HO s1 s2 f1 hcap hmx hl2
        obtain ⟨ao1, cap1, rfl, hcap1, hmx1⟩ := ho1.shape
        obtain ⟨n1, hn1⟩ : ∃ n, n = c1.flies.length := ⟨_, rfl⟩
        have hl1 := hk1.l2
        rw [← hn1] at hb1 hcap1 hl1 hm1
        have g7 := hb1.cell 7
        have g11 := hb1.cell 11
        have g12 := hb1.cell 12
        have g13 := hb1.cell 13
        have gf := hb1.frozen
        simp [C.cells] at g7 g11 g12 g13
        have HN := Lib.hid hn1
        have HB := Lib.hid hb1
        have HO := Lib.hid ho1
        have HK1 := Lib.hid hk1
        have HA := Lib.hid ha1
        have HU := Lib.hid hu1
        have s1 := hk1.s1
        have s2 := hk1.s2
        have f1 : 0 ≤ c1.first ∧ c1.first < 65536 := by unfold C.first; omega
        clear hb1 ho1 hn1 hk1 ha1 hu1
        by_cases hp : 0 < n1
        · obtain ⟨g, off, cap2, hv, _⟩ := HO.out.form (by have := HN.out; omega)
          injection hv with hv1 _ hv3
          subst hv1 hv3
          have hnb : b ∉ of := HO.out.ne_blk HB.out (by decide)
          obtain ⟨n2, hn2⟩ : ∃ n2, n2 = n1 - 1 := ⟨_, rfl⟩
          have HC : Hid (Own wr 9 1 (.slice (if cap1 = 1 then some ⟨g, off, none⟩ else some ⟨g, off + 1, none⟩) (n1 - 1) (cap1 - 1)) c1.pop.flies.length (strs c1.pop.flies) of) := by
            have h1 := HO.out.cut (k := 1) (by have := HN.out; omega)
            simp only [Nat.one_mul] at h1
            rw [C.pop_flies, List.length_tail]
            have h2 : (strs c1.flies).drop 1 = strs c1.flies.tail := by simp [strs]
            rw [h2, ← HN.out] at h1
            rw [← HN.out]
            exact h1
          by_cases t3 : bef c1.first nr = true
          · have HA2 : Hid (C.ackLoop nr (gk - 1) c1.pop = c.acked nr) := by
              have h1 := HA.out
              have h2 := HN.out
              rw [show gk = (gk - 1) + 1 by omega, C.ackLoop, if_pos ⟨by omega, t3⟩] at h1
              exact h1
            go_wp2_with first
              | (go_at_call 38; refine (first_any b c1 vw (some ⟨g, off, none⟩) n1 cap1 _ HN.out (by omega) HB.out).mono ?_; rintro e w' ⟨rfl, k, rfl⟩)
              | (go_at_call 27; refine (before_any _ _ _).mono ?_; rintro e w' ⟨rfl, rfl⟩)
              | (go_at_call 113; fail)
            all_goals
              refine Calls.mono (grow_any b { c1 with flies := c1.flies.tail, tries := 0, ticks := 0, again := false } vw ?_ _ ?_ ?_) ?_
              rotate_left
              · exact C.pop_ok' HK1.out
              · apply Blk.of_eq
                · repeat (with_reducible first | exact HB.out | apply Blk.drewN | apply Blk.drew | apply Blk.set_)
                · rfl
              · rintro e w' ⟨rfl, hb2, hu2⟩
                go_wp2
                have hu3 : Upd [b] wr w' := by
                  refine Upd.trans ?_ hu2
                  repeat (with_reducible first | apply Upd.refl | apply Upd.drewN | apply Upd.drew | (refine Upd.setCell _ ?_ (by simp)))
                have ho3 := HC.out.upd hu3 (fun k hk => by simp; rintro rfl; exact hnb hk)
                go_roundg (gk - 1)
                case rel =>
                  refine ⟨c1.pop, _, C.pop_ok HK1.out, HA2.out, ?_, hb2, ?_, HU.out.trans hu3⟩
                  · rw [C.pop_flies, List.length_tail]; have := HN.out; omega
                  · first
                      | exact ho3
                      | (simp only [*, ↓reduceIte] at ho3 ⊢; exact ho3)
                case measure => omega
          · have HA2 : Hid (c.acked nr = c1) := by
              have h1 := HA.out
              rw [← h1]
              exact C.ackLoop_stop nr gk (by simp [t3])
            have t3 : bef c1.first nr = false := by simpa using t3
            go_wp2_with first
              | (go_at_call 38; refine (first_any b c1 vw (some ⟨g, off, none⟩) n1 cap1 _ HN.out (by omega) HB.out).mono ?_; rintro e w' ⟨rfl, k, rfl⟩)
              | (go_at_call 27; refine (before_any _ _ _).mono ?_; rintro e w' ⟨rfl, rfl⟩)
            go_end0
            refine ⟨rfl, ?_⟩
            rw [HA2.out, ← HN.out]
            exact ⟨_, HB.out.drewN k, (HN.out ▸ HO.out).drewN k, HU.out.drewN k⟩
        · have HA2 : Hid (c.acked nr = c1) := by
            have h1 := HA.out
            rw [← h1]
            exact C.ackLoop_stop nr gk (by rw [← HN.out]; simp [hp])
          obtain rfl : n1 = 0 := by omega
          go_wp2
          go_end0
          refine ⟨rfl, ?_⟩
          rw [HA2.out, ← HN.out]
          exact ⟨_, HB.out, (HN.out ▸ HO.out), HU.out⟩
end Go.Proofs.YtdccmlpikjbcaaaGreat
