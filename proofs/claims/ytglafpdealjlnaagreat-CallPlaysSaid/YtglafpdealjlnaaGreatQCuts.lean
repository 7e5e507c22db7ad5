/- Plain: slices cut: what stands ahead, what stands behind. No program in sight. -/
import Derived.Test.YtglafpdealjlnaaGreatQLib
namespace Go.Proofs.YtglafpdealjlnaaGreat
open Go.RowKit
set_option linter.unusedSimpArgs false
set_option linter.unusedVariables false

theorem Rd.cut {w : World} {size n m : Nat} {ao : Option Addr} {c : Nat} {xs : List Value} (h : Rd w size (.slice ao n c) n xs) (hm : m ≤ n) : Rd w size (.slice ao m c) m (xs.take (m * size)) := by
  obtain ⟨ao, c, e, h1, h2, h3, h4, h5⟩ := h
  injection e with e1 e2 e3
  subst e1 e3
  have hle : m * size ≤ n * size := Nat.mul_le_mul_right _ hm
  refine ⟨_, _, rfl, by omega, h2, ?_, fun u hu => h4 u (List.mem_of_mem_take hu), fun h0 => ?_⟩
  · rw [List.length_take]; omega
  · obtain ⟨a, ha, h6⟩ := h5 (by omega)
    refine ⟨a, ha, fun j u hj => h6 j u ?_⟩
    rw [List.getElem?_take] at hj
    split at hj
    · exact hj
    · cases hj
theorem Rd.tail {w : World} {size n m : Nat} {ao : Option Addr} {c : Nat} {xs : List Value} (h : Rd w size (.slice ao n c) n xs) (hm : m ≤ n) : Rd w size (sliced ao m n c size) (n - m) (xs.drop (m * size)) := by
  obtain ⟨ao, c, e, h1, h2, h3, h4, h5⟩ := h
  injection e with e1 e2 e3
  subst e1 e3
  have hle : m * size ≤ n * size := Nat.mul_le_mul_right _ hm
  refine ⟨_, _, rfl, by omega, by omega, ?_, fun u hu => h4 u (List.mem_of_mem_drop hu), fun h0 => ?_⟩
  · rw [List.length_drop, h3, Nat.sub_mul]
  · obtain ⟨a, rfl, h6⟩ := h5 (by omega)
    rw [if_neg (by omega)]
    refine ⟨_, rfl, fun j u hj => ?_⟩
    rw [add_add]
    rw [List.getElem?_drop] at hj
    exact h6 _ u hj
theorem run_prefix {P : Program} (t : TypeId) (ht : P.underlying t = some (.slice (P.elem t))) (s : Nat) (hs : ∀ W, (sizeOf (P.elem t)).run P W = .ok s W) (a : Option Addr) (n c m : Nat) (hm : m ≤ c) (W : World) :
    (Instr.slice t (.slice a n c) none (some (.int .i64 (m : Int))) none).run P W = .ok (.slice a m c) W := by
  rw [run_slice_h W t a n c ht .i64 _ (by omega) (by omega), hs]
  cases a with
  | none => simp [sliced, Result.andThen]
  | some a => simp [sliced, Result.andThen, Addr.add]
theorem run_suffix {P : Program} (t : TypeId) (ht : P.underlying t = some (.slice (P.elem t))) (s : Nat) (hs : ∀ W, (sizeOf (P.elem t)).run P W = .ok s W) (a : Option Addr) (n c m : Nat) (hm : m ≤ n) (v : Value) (hv : v = sliced a m n c s) (W : World) :
    (Instr.slice t (.slice a n c) (some (.int .i64 (m : Int))) none none).run P W = .ok v W := by
  rw [run_slice_l W t a n c ht .i64 _ (by omega) (by omega), hs, hv]
  simp [Result.andThen]
theorem Own.rd' {w : World} {e : TypeId} {size n : Nat} {v : Value} {xs : List Value} {own : List Nat} (h : Own w e size v n xs own) (h1 : ∀ u ∈ xs, u.oneCell' = true) : Rd w size v n xs := by
  obtain ⟨hl, h⟩ := id h
  rcases h with ⟨rfl, rfl, rfl⟩ | ⟨g, off, cap, cur, rfl, rfl, hb, hnc, hcm, hsz, ht⟩
  · exact ⟨none, 0, rfl, Nat.le_refl _, by simp [maxLen], hl, h1, fun h => by omega⟩
  · refine ⟨_, cap, rfl, hnc, hcm, hl, h1, fun hn => ⟨_, rfl, fun j u hj => ?_⟩⟩
    rw [add_plain', hb.cell]
    rw [← ht, List.getElem?_take] at hj
    split at hj
    · simpa [List.getElem?_drop] using hj
    · cases hj
end Go.Proofs.YtglafpdealjlnaaGreat
