/- CtlGives, the plain part: what Tick and Out do to a channel that hears nothing, by reckoning. -/
import Derived.Test.YtclodmcdimaccaaCtlN
namespace Go.Proofs.Ytclodmcdimaccaa
open Go.RowKit

/-- One tick and one Out; how many were said. -/
def gvStep (p : C × Int) : C × Int := (p.1.tick.out.1, p.2 + p.1.tick.out.2.length)
def gvRun : Nat → C × Int → C × Int
  | 0, p => p
  | n + 1, p => gvRun n (gvStep p)
theorem gvRun_succ (n : Nat) (p : C × Int) : gvRun (n + 1) p = gvStep (gvRun n p) := by
  induction n generalizing p with
  | zero => rfl
  | succ n ih => rw [gvRun, ih, ← gvRun]
/-- The first round at which it is dead, and how many were said then. -/
def gvEnd : Nat → C × Int → Nat → Option (Nat × Int)
  | 0, _, _ => none
  | f + 1, p, k => if p.1.dead then some (k, p.2) else gvEnd f (gvStep p) (k + 1)
theorem gvEnd_spec : ∀ (f : Nat) (p : C × Int) (k K : Nat) (n : Int), gvEnd f p k = some (K, n) →
    k ≤ K ∧ K < k + f ∧ (gvRun (K - k) p).1.dead = true ∧ (gvRun (K - k) p).2 = n ∧ ∀ j, j < K - k → (gvRun j p).1.dead = false
  | 0, _, _, _, _, h => by simp [gvEnd] at h
  | f + 1, p, k, K, n, h => by
    unfold gvEnd at h
    split at h
    · rename_i hd
      simp only [Option.some.injEq, Prod.mk.injEq] at h
      obtain ⟨rfl, rfl⟩ := h
      refine ⟨Nat.le_refl _, by omega, ?_, ?_, fun j hj => by omega⟩
      · rw [Nat.sub_self]; exact hd
      · rw [Nat.sub_self]; rfl
    · rename_i hd
      obtain ⟨h1, h2, h3, h4, h5⟩ := gvEnd_spec f (gvStep p) (k + 1) K n h
      have e : K - k = (K - (k + 1)) + 1 := by omega
      refine ⟨by omega, by omega, ?_, ?_, ?_⟩
      · rw [e]; exact h3
      · rw [e]; exact h4
      · intro j hj
        cases j with
        | zero => show p.1.dead = false; simpa using hd
        | succ j => exact h5 j (by omega)
def gvC (retry wait : Int) : C := ((C.new 4 10 retry wait 0).send ⟨#[120]⟩).1.out.1
def gvWant : Nat → Int → Int
  | 0, _ => 0
  | n + 1, wait => gvWant n wait + wait * 2 ^ (min n 3)
def gvCheck (r w : Nat) : Bool := match gvEnd 2000 (gvC r (w + 1), 1) 0 with
  | some (K, n) => ((K : Int) == gvWant (r + 1) (w + 1)) && n == r + 1
  | none => false
set_option maxRecDepth 1000000 in
theorem gvCheck_all : ∀ r, r < 7 → ∀ w, w < 10 → gvCheck r w = true := by decide +kernel
theorem gv_law (retry wait : Int) (h1 : 0 ≤ retry) (h2 : retry ≤ 6) (h3 : 1 ≤ wait) (h4 : wait ≤ 10) :
    ∃ K : Nat, K < 2000 ∧ (K : Int) = gvWant (retry.toNat + 1) wait ∧ (gvRun K (gvC retry wait, 1)).1.dead = true ∧ (gvRun K (gvC retry wait, 1)).2 = retry + 1 ∧ ∀ j, j < K → (gvRun j (gvC retry wait, 1)).1.dead = false := by
  obtain ⟨r, rfl⟩ := Int.eq_ofNat_of_zero_le h1
  obtain ⟨w, hw⟩ := Int.eq_ofNat_of_zero_le (show 0 ≤ wait - 1 by omega)
  obtain rfl : wait = (w : Int) + 1 := by omega
  have h := gvCheck_all r (by omega) w (by omega)
  unfold gvCheck at h
  split at h
  · rename_i K n hg
    obtain ⟨k1, k2, k3, k4, k5⟩ := gvEnd_spec _ _ _ _ _ hg
    simp only [Bool.and_eq_true, beq_iff_eq] at h
    exact ⟨K, by omega, h.1, k3, by rw [← h.2]; exact k4, k5⟩
  · cases h
end Go.Proofs.Ytclodmcdimaccaa
