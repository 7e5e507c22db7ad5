/- Plain: pairs that lie in a slice, as cells. No program in sight. -/
import Derived.Test.YthkfgjmifoeljaaGreatPairs
import Derived.Test.YthkfgjmifoeljaaGreatRd
namespace Go.Proofs.YthkfgjmifoeljaaGreat
open Go.RowKit

theorem TgsAt.rd {w : World} {v : Value} {l : List Tg} (h : TgsAt w v l) : Rd w 2 v l.length (tgCells l) := by
  obtain ⟨ao, cap, rfl, h1, h2, h3⟩ := h
  refine ⟨ao, cap, rfl, h1, h2, tgCells_length l, ?_, fun hn => ?_⟩
  · intro u hu
    simp only [tgCells, List.mem_flatMap] at hu
    obtain ⟨t, _, hu⟩ := hu
    simp at hu
    rcases hu with rfl | rfl <;> rfl
  · obtain ⟨q, rfl, _⟩ := h3 0 l[0] (by simp [hn])
    refine ⟨q, rfl, fun j u hj => ?_⟩
    have hjl : j < l.length * 2 := by
      have := (List.getElem?_eq_some_iff.1 hj).1
      simpa using this
    obtain ⟨t, htt⟩ : ∃ t, l[j / 2]? = some t := ⟨_, List.getElem?_eq_getElem (by omega)⟩
    obtain ⟨q', e', k0, k1⟩ := h3 (j / 2) t htt
    injection e' with e'
    subst e'
    obtain ⟨c0, c1⟩ := tgCells_get l (j / 2) htt
    clear htt hjl
    have hj2 : j = j / 2 * 2 ∨ j = j / 2 * 2 + 1 := by omega
    rcases hj2 with h | h
    · rw [← h] at c0 k0
      rw [c0] at hj
      injection hj with hj
      subst hj
      exact k0
    · rw [← h] at c1
      rw [c1] at hj
      injection hj with hj
      subst hj
      rw [← k1]
      congr 1
      rw [show q.add j = q.add (j / 2 * 2 + 1) from congrArg _ h]
      unfold Addr.add
      split
      · omega
      · split
        · rename_i hz; congr 1; omega
        · simp [Nat.add_assoc]
end Go.Proofs.YthkfgjmifoeljaaGreat
