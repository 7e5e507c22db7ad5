/- The walk of chapter 18's Light. -/
import Derived.Test.YtglafpdealjlnaaGreatQMsgA
namespace Go.Proofs.YtglafpdealjlnaaGreat
open Go.RowKit
set_option maxRecDepth 100000
set_option linter.unusedSimpArgs false
set_option linter.unusedVariables false

def sumA : List Av → Nat
  | [] => 0
  | a :: l => a.val.size + sumA l
theorem sumA_append (l m : List Av) : sumA (l ++ m) = sumA l + sumA m := by
  induction l with
  | nil => simp [sumA]
  | cons a l ih => simp only [List.cons_append, sumA, ih]; omega
def LightA (l : List Av) : Bool := decide (l.length ≤ 50) && decide (sumA (l.take 60) ≤ 6000)
set_option maxHeartbeats 1000000 in
theorem lightA_any (l : List Av) (v : Value) (w : World) (hl : AvsAt w v l) (hs : ∀ t ∈ l, t.val.size ≤ 140737488355328) :
    Calls Tryz.prog 6 #[v] w fun e w' => e = .returned (.bool (LightA l)) ∧ Upd [] w w' := by
  obtain ⟨ao, cap, rfl, h1, h2, -⟩ := id hl
  obtain ⟨n, hn⟩ : ∃ n, n = l.length := ⟨_, rfl⟩
  have HQ : Hid (LightA l = (decide (n ≤ 50) && decide (sumA (l.take 60) ≤ 6000))) := by show _ = _; rw [hn]; rfl
  rw [← hn] at h1
  rw [← hn]
  have HL := Lib.hid hl
  have HN := Lib.hid hn
  have HS := Lib.hid hs
  simp only [maxLen] at h2
  clear hl hn hs
  go_enter Tryz.func6, Tryz.ntmps6
  go_wp2
  go_loopg [3, 4] 60 (fun m s3 s4 wr => ∃ k z : Nat, k + m = 60 ∧ k ≤ n ∧ s3 = .int .i64 z ∧ s4 = .int .i64 k ∧ sumA (l.take k) = z ∧ z ≤ k * 140737488355328 ∧ wr = w)
  case atStart => exact ⟨0, 0, by omega, by omega, rfl, rfl, rfl, by omega, rfl⟩
  case round =>
    obtain ⟨k, z, hk, hkn, rfl, rfl, hz, hzb, rfl⟩ := hrel
    by_cases t : k < n
    · by_cases t2 : k < 60
      · obtain ⟨x, hx⟩ : ∃ x, l[k]? = some x := by
          have := HN.out
          exact ⟨_, List.getElem?_eq_getElem (by omega)⟩
        have hsz := HS.out x (List.mem_of_getElem? hx)
        obtain ⟨ao', cap', e0, -, -, h3⟩ := HL.out
        injection e0 with e0 e1 e2
        clear e1
        subst e0 e2
        obtain ⟨q, rfl, c0, c1, c2, c3, c4⟩ := h3 k x hx
        clear h3
        have HX : Hid (sumA (l.take (k + 1)) = z + x.val.size) := by
          show _ = _
          rw [List.take_add_one, hx, sumA_append, hz]
          simp [sumA]
        clear hx hz
        go_wp2
        go_roundg (60 - (k + 1))
        case rel => exact ⟨k + 1, z + x.val.size, by omega, by omega, by go_num, by go_num, HX.out, by omega, rfl⟩
        case measure => omega
      · obtain rfl : k = 60 := by omega
        have HZ := Lib.hid hz
        have t3 : ¬ n ≤ 50 := by omega
        have HF : Hid (LightA l = false) := by show _ = _; rw [HQ.out]; simp [t3]
        clear hz
        go_wp2
        go_ret
        rw [HF.out]
        exact ⟨rfl, Upd.refl _ _⟩
    · obtain rfl : k = n := by omega
      have HF : Hid (LightA l = (decide (k ≤ 50) && decide (z ≤ 6000))) := by
        show _ = _
        rw [HQ.out, ← hz]
        by_cases h : k ≤ 50
        · rw [List.take_of_length_le (by rw [← HN.out]; omega), List.take_of_length_le (l := l) (by rw [← HN.out]; exact Nat.le_refl _)]
        · simp [h]
      clear hz
      by_cases t3 : k ≤ 50
      · go_wp2
        go_ret
        rw [HF.out]
        refine ⟨?_, Upd.refl _ _⟩
        simp [t3]
        try omega
      · go_wp2
        go_ret
        rw [HF.out]
        refine ⟨?_, Upd.refl _ _⟩
        simp [t3]
        try omega
theorem LightA_spec {l : List Av} (h : LightA l = true) : l.length ≤ 50 := by
  simp only [LightA, Bool.and_eq_true, decide_eq_true_eq] at h
  exact h.1
end Go.Proofs.YtglafpdealjlnaaGreat
