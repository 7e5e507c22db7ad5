/- The walk of MsgBits. -/
import Derived.Test.YtcplhlokbnaabaaMsgI
namespace Go.Proofs.Ytcplhlokbnaabaa
open Go.RowKit
set_option linter.unusedSimpArgs false
set_option linter.unusedVariables false
set_option maxRecDepth 100000

theorem getM_ok {b secret : ByteArray} (h : (getM b secret).2 = 0) : isCtlB b = true := by
  unfold getM at h
  by_cases t1 : b.size < 12
  · rw [if_pos t1] at h; cases h
  rw [if_neg t1] at h
  by_cases t2 : byte b 0 ≠ 200 ∨ byte b 1 ≠ 2
  · rw [if_pos t2] at h; cases h
  have h0 : byte b 0 = 200 := Classical.byContradiction fun h => t2 (.inl h)
  unfold isCtlB
  rw [h0, decide_eq_true (show b.size ≠ 0 by omega)]
  rfl
theorem getL_ok {b : ByteArray} (h : (getL b).2 = 0) : isCtlB b = false := by
  unfold getL at h
  by_cases t1 : b.size < 8
  · rw [if_pos t1] at h; cases h
  rw [if_neg t1] at h
  by_cases t2 : ¬ (byte b 0 = 64 ∨ byte b 0 = 72) ∨ byte b 1 ≠ 2
  · rw [if_pos t2] at h; cases h
  have h0 : byte b 0 = 64 ∨ byte b 0 = 72 := Classical.byContradiction fun h => t2 (.inl h)
  rcases h0 with h0 | h0 <;> simp [isCtlB, h0]

set_option maxHeartbeats 8000000 in
theorem msgBits_any (b secret : ByteArray) (hb : b.size ≤ 140737488355328) (hs : secret.size ≤ 140737488355328) (w : World) :
    Calls Try.prog 5 #[.string b, .string secret] w fun e w' => e = .returned (.bool true) ∧ Upd [] w w' := by
  by_cases t1 : 3000 < b.size
  · have t1' : (3000 : Int) < b.size := by omega
    go_enter Try.func5, Try.ntmps5
    go_wp2_with fail
    refine (alive_any _).mono ?_
    rintro e w1 ⟨rfl, hu1⟩
    go_wp2_with fail
    go_ret
    exact ⟨rfl, hu1⟩
  have t1' : ¬ (3000 : Int) < b.size := by omega
  by_cases t2 : 100 < secret.size
  · have t2' : (100 : Int) < secret.size := by omega
    go_enter Try.func5, Try.ntmps5
    go_wp2_with fail
    refine (alive_any _).mono ?_
    rintro e w1 ⟨rfl, hu1⟩
    go_wp2_with fail
    go_ret
    exact ⟨rfl, hu1⟩
  have t2' : ¬ (100 : Int) < secret.size := by omega
  have HG := Lib.hid (fun W => msgGet_any b secret (by omega) (by omega) W)
  have HL := Lib.hid (fun W => getLoad_any b (by omega) W)
  have HI := Lib.hid (fun W => isCtl_any b (by simp only [maxLen]; omega) W)
  have k1 := @getM_ok b secret
  have k2 := @getL_ok b
  have k3 : b.size = 0 → (getL b).2 ≠ 0 := fun h => by unfold getL; rw [if_pos (by omega)]; decide
  obtain ⟨c, e, hce⟩ : ∃ c e, getM b secret = (c, e) := ⟨_, _, rfl⟩
  obtain ⟨l, f, hlf⟩ : ∃ c e, getL b = (c, e) := ⟨_, _, rfl⟩
  rw [hce] at HG k1
  rw [hlf] at HL k2 k3
  dsimp only at HG HL k1 k2 k3
  obtain ⟨ct, cs, cn, cr, cl⟩ := c
  obtain ⟨lt, ls, lq, ln, lr, ld⟩ := l
  simp only [Ld.agg] at HL
  clear hce hlf
  by_cases t3 : b.size = 0
  · have hic : isCtlB b = false := by unfold isCtlB; rw [t3]; rfl
    rw [hic] at HI k1 k2
    have he : e ≠ 0 := fun h => by have := k1 h; cases this
    have hf : f ≠ 0 := fun h => k3 t3 h
    have he' : (e == 0) = false := by simpa using he
    have hf' : (f == 0) = false := by simpa using hf
    clear k1 k2 k3 hic he hf
    go_enter Try.func5, Try.ntmps5
    go_wp2_with fail
    refine (HG.out _).mono ?_
    rintro e1 w1 ⟨⟨v, own, rfl, ho, -, hu1⟩⟩
    obtain ⟨ao, cap, rfl, -, -⟩ := ho.shape
    simp only [Cm.val]
    clear ho
    go_wp2_with fail
    refine (HL.out _).mono ?_
    rintro e2 w2 ⟨rfl, hu2⟩
    have HU := Lib.hid ((hu1.alloc _).trans hu2)
    clear hu1 hu2
    go_wp2_with fail
    refine (alive_any _).mono ?_
    rintro e4 w4 ⟨rfl, hu4⟩
    go_wp2_with fail
    refine (HI.out _).mono ?_
    rintro e5 w5 ⟨rfl, rfl⟩
    go_wp2_with fail
    go_ret
    exact ⟨rfl, (HU.out.alloc _).trans hu4⟩
  have p0 : 0 < b.size := by omega
  have q0 := byte_get b 0 p0
  have hz : (bits .and .u8 (byte b 0) 128 != 0) = isCtlB b := by
    rw [and128 _ (byte_bd b 0)]
    unfold isCtlB
    rw [decide_eq_true t3]
    rfl
  clear k3
  generalize isCtlB b = ic at *
  generalize byte b 0 = y0 at *
  clear t3
  by_cases he : e = 0
  · obtain rfl := k1 he
    have hf : f ≠ 0 := fun h => by have := k2 h; cases this
    have hf' : (f == 0) = false := by simpa using hf
    subst he
    clear k1 k2 hf
    go_enter Try.func5, Try.ntmps5
    go_wp2_with fail
    refine (HG.out _).mono ?_
    rintro e1 w1 ⟨⟨v, own, rfl, ho, -, hu1⟩⟩
    obtain ⟨ao, cap, rfl, -, -⟩ := ho.shape
    simp only [Cm.val]
    clear ho
    go_wp2_with fail
    refine (HL.out _).mono ?_
    rintro e2 w2 ⟨rfl, hu2⟩
    have HU := Lib.hid ((hu1.alloc _).trans hu2)
    clear hu1 hu2
    go_wp2_with fail
    refine (HI.out _).mono ?_
    rintro e3 w3 ⟨rfl, rfl⟩
    go_wp2_with fail
    refine (alive_any _).mono ?_
    rintro e4 w4 ⟨rfl, hu4⟩
    go_wp2_with fail
    refine (HI.out _).mono ?_
    rintro e5 w5 ⟨rfl, rfl⟩
    go_wp2_with fail
    go_ret
    exact ⟨rfl, (HU.out.alloc _).trans hu4⟩
  have he' : (e == 0) = false := by simpa using he
  by_cases hf : f = 0
  · obtain rfl := k2 hf
    subst hf
    clear k1 k2 he
    go_enter Try.func5, Try.ntmps5
    go_wp2_with fail
    refine (HG.out _).mono ?_
    rintro e1 w1 ⟨⟨v, own, rfl, ho, -, hu1⟩⟩
    obtain ⟨ao, cap, rfl, -, -⟩ := ho.shape
    simp only [Cm.val]
    clear ho
    go_wp2_with fail
    refine (HL.out _).mono ?_
    rintro e2 w2 ⟨rfl, hu2⟩
    have HU := Lib.hid ((hu1.alloc _).trans hu2)
    clear hu1 hu2
    go_wp2_with fail
    refine (HI.out _).mono ?_
    rintro e3 w3 ⟨rfl, rfl⟩
    go_wp2_with fail
    refine (alive_any _).mono ?_
    rintro e4 w4 ⟨rfl, hu4⟩
    go_wp2_with fail
    refine (HI.out _).mono ?_
    rintro e5 w5 ⟨rfl, rfl⟩
    go_wp2_with fail
    go_ret
    exact ⟨rfl, (HU.out.alloc _).trans hu4⟩
  have hf' : (f == 0) = false := by simpa using hf
  clear k1 k2 he hf
  go_enter Try.func5, Try.ntmps5
  go_wp2_with fail
  refine (HG.out _).mono ?_
  rintro e1 w1 ⟨⟨v, own, rfl, ho, -, hu1⟩⟩
  obtain ⟨ao, cap, rfl, -, -⟩ := ho.shape
  simp only [Cm.val]
  clear ho
  go_wp2_with fail
  refine (HL.out _).mono ?_
  rintro e2 w2 ⟨rfl, hu2⟩
  have HU := Lib.hid ((hu1.alloc _).trans hu2)
  clear hu1 hu2
  go_wp2_with fail
  refine (alive_any _).mono ?_
  rintro e4 w4 ⟨rfl, hu4⟩
  go_wp2_with fail
  refine (HI.out _).mono ?_
  rintro e5 w5 ⟨rfl, rfl⟩
  cases ic
  all_goals
    go_wp2_with fail
    go_ret
    exact ⟨rfl, (HU.out.alloc _).trans hu4⟩

theorem msgBits_walk (b : ByteArray) (h1 : b.size ≤ reachBytes) (secret : ByteArray) (h2 : secret.size ≤ reachBytes) (W : World) :
    Calls Try.prog 5 #[.string b, .string secret] W fun e w' => e = .returned (.bool true) ∧ Below W.heap.size W w' := by
  unfold reachBytes at h1 h2
  exact (msgBits_any b secret (by omega) (by omega) W).mono fun e W' ⟨he, hu⟩ => ⟨he, hu.below⟩
end Go.Proofs.Ytcplhlokbnaabaa
