/- Plain: slices of a number and a text each, as they lie in a world. No program in sight. -/
import Derived.Test.YthkfgjmifoeljaaGreatLib
import Derived.Test.YthkfgjmifoeljaaGreatOpen
namespace Go.Proofs.YthkfgjmifoeljaaGreat
open Go.RowKit

theorem str_inj {s t : ByteArray} : s.toList = t.toList ↔ s = t := by
  rw [ByteArray.toList_eq, ByteArray.toList_eq]
  constructor
  · intro h; exact ByteArray.ext (Array.toList_inj.1 h)
  · rintro rfl; rfl

structure Tg where
  k : Int
  s : ByteArray
deriving DecidableEq

theorem cell_lt {w : World} {a : Addr} {v : Value} (h : w.cell? a = some v) : a.block < w.heap.size := by
  unfold World.cell? at h
  by_cases hl : a.block < w.heap.size
  · exact hl
  · rw [Array.getElem?_eq_none (by omega)] at h
    simp at h

/-- The slice value v reads as these pairs. -/
def TgsAt (w : World) (v : Value) (l : List Tg) : Prop :=
  ∃ ao cap, v = .slice ao l.length cap ∧ l.length ≤ cap ∧ cap ≤ maxLen ∧ ∀ i t, l[i]? = some t → ∃ q, ao = some q ∧ w.cell? (q.add (i * 2)) = some (.int .i64 t.k) ∧
    w.cell? ⟨(q.add (i * 2)).block, (q.add (i * 2)).off + 1, none⟩ = some (.string t.s)
theorem TgsAt.upd {w w' : World} {v : Value} {l : List Tg} (h : TgsAt w v l) (hu : Upd [] w w') : TgsAt w' v l := by
  obtain ⟨ao, cap, rfl, h1, h2, h3⟩ := h
  refine ⟨ao, cap, rfl, h1, h2, fun i t ht => ?_⟩
  obtain ⟨q, rfl, k1, k2⟩ := h3 i t ht
  exact ⟨q, rfl, (hu.cell (cell_lt k1) (by simp)).trans k1, (hu.cell (cell_lt k2) (by simp)).trans k2⟩
def tgCells (l : List Tg) : List Value := l.flatMap fun t => [.int .i64 t.k, .string t.s]
@[simp] theorem tgCells_length (l : List Tg) : (tgCells l).length = l.length * 2 := by
  induction l with
  | nil => rfl
  | cons a l ih => simp only [tgCells, List.flatMap_cons, List.length_append] at ih ⊢; rw [ih]; simp only [List.length_cons, List.length_nil]; omega
theorem tgCells_get (l : List Tg) (i : Nat) {t : Tg} (h : l[i]? = some t) : (tgCells l)[i * 2]? = some (.int .i64 t.k) ∧ (tgCells l)[i * 2 + 1]? = some (.string t.s) := by
  induction l generalizing i with
  | nil => simp at h
  | cons a l ih =>
    cases i with
    | zero => simp at h; subst h; exact ⟨rfl, rfl⟩
    | succ i =>
      obtain ⟨h1, h2⟩ := ih i (by simpa using h)
      refine ⟨?_, ?_⟩
      · rw [← h1, show (i + 1) * 2 = i * 2 + 2 by omega]; rfl
      · rw [← h2, show (i + 1) * 2 + 1 = i * 2 + 1 + 2 by omega]; rfl
theorem add_plain (g off n : Nat) : (⟨g, off, none⟩ : Addr).add n = ⟨g, off + n, none⟩ := by unfold Addr.add; split <;> simp_all
theorem TgsAt.of_own {w : World} {e : TypeId} {v : Value} {l : List Tg} {own : List Nat} (h : Own w e 2 v l.length (tgCells l) own) : TgsAt w v l := by
  obtain ⟨ao, cap, hv, h1, h2⟩ := h.shape
  refine ⟨ao, cap, hv, h1, h2, fun i t ht => ?_⟩
  have hi : 0 < l.length := by
    have := (List.getElem?_eq_some_iff.1 ht).1
    omega
  obtain ⟨g, off, cap', hv', _, _, _, h5⟩ := h.form hi
  rw [hv] at hv'
  injection hv' with e1 e2 e3
  obtain ⟨k1, k2⟩ := tgCells_get l i ht
  refine ⟨_, e1, ?_, ?_⟩
  · rw [add_plain]; exact h5 _ _ k1
  · rw [add_plain]
    show w.cell? ⟨g, off + i * 2 + 1, none⟩ = _
    rw [Nat.add_assoc]; exact h5 _ _ k2
theorem TgsAt.nil (w : World) : TgsAt w (.slice none 0 0) [] := ⟨none, 0, rfl, by simp, by simp [maxLen], by simp⟩
end Go.Proofs.YthkfgjmifoeljaaGreat
