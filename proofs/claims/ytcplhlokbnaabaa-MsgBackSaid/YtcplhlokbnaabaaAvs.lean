/- Plain: slices of values (Avp), as they lie in a world. No program in sight. -/
import Derived.Test.YtcplhlokbnaabaaRd
namespace Go.Proofs.Ytcplhlokbnaabaa
open Go.RowKit
set_option linter.unusedSimpArgs false

structure Av where
  must : Bool
  hidden : Bool
  vendor : Int
  kind : Int
  val : ByteArray
deriving DecidableEq
def Av.cells (a : Av) : List Value := [.bool a.must, .bool a.hidden, .int .i64 a.vendor, .int .i64 a.kind, .string a.val]
def Av.agg (a : Av) : Value := .agg #[.bool a.must, .bool a.hidden, .int .i64 a.vendor, .int .i64 a.kind, .string a.val]
/-- A value lies at an address. -/
def AvAt (w : World) (p : Addr) (a : Av) : Prop :=
  w.cell? p = some (.bool a.must) ∧ w.cell? ⟨p.block, p.off + 1, none⟩ = some (.bool a.hidden) ∧ w.cell? ⟨p.block, p.off + 2, none⟩ = some (.int .i64 a.vendor) ∧
  w.cell? ⟨p.block, p.off + 3, none⟩ = some (.int .i64 a.kind) ∧ w.cell? ⟨p.block, p.off + 4, none⟩ = some (.string a.val)
theorem AvAt.upd {w w' : World} {p : Addr} {a : Av} (h : AvAt w p a) (hu : Upd [] w w') : AvAt w' p a := by
  obtain ⟨h0, h1, h2, h3, h4⟩ := h
  exact ⟨(hu.cell (cell_lt' h0) (by simp)).trans h0, (hu.cell (cell_lt' h1) (by simp)).trans h1, (hu.cell (cell_lt' h2) (by simp)).trans h2, (hu.cell (cell_lt' h3) (by simp)).trans h3, (hu.cell (cell_lt' h4) (by simp)).trans h4⟩
/-- The slice value v reads as these values. -/
def AvsAt (w : World) (v : Value) (l : List Av) : Prop :=
  ∃ ao cap, v = .slice ao l.length cap ∧ l.length ≤ cap ∧ cap ≤ maxLen ∧ ∀ i a, l[i]? = some a → ∃ q, ao = some q ∧ AvAt w (q.add (i * 5)) a
theorem AvsAt.upd {w w' : World} {v : Value} {l : List Av} (h : AvsAt w v l) (hu : Upd [] w w') : AvsAt w' v l := by
  obtain ⟨ao, cap, rfl, h1, h2, h3⟩ := h
  refine ⟨ao, cap, rfl, h1, h2, fun i t ht => ?_⟩
  obtain ⟨q, rfl, k⟩ := h3 i t ht
  exact ⟨q, rfl, k.upd hu⟩
theorem AvsAt.nil (w : World) : AvsAt w (.slice none 0 0) [] := ⟨none, 0, rfl, by simp, by simp [maxLen], by simp⟩
theorem AvsAt.take {w : World} {ao : Option Addr} {n cap : Nat} {l : List Av} (h : AvsAt w (.slice ao n cap) l) (k : Nat) (hk : k ≤ l.length) : AvsAt w (.slice ao k cap) (l.take k) := by
  obtain ⟨ao', cap', e, h1, h2, h3⟩ := h
  injection e with e1 e2 e3
  subst e1 e3
  have hl : (l.take k).length = k := by rw [List.length_take]; omega
  refine ⟨ao, cap, by rw [hl], by omega, h2, fun i t ht => ?_⟩
  rw [List.getElem?_take] at ht
  split at ht
  · exact h3 i t ht
  · cases ht
def avCells (l : List Av) : List Value := l.flatMap Av.cells
@[simp] theorem avCells_length (l : List Av) : (avCells l).length = l.length * 5 := by
  induction l with
  | nil => rfl
  | cons a l ih => simp only [avCells, List.flatMap_cons, List.length_append] at ih ⊢; rw [ih]; simp only [Av.cells, List.length_cons, List.length_nil]; omega
theorem avCells_append (l m : List Av) : avCells (l ++ m) = avCells l ++ avCells m := by simp [avCells]
theorem avCells_snoc (l : List Av) (a : Av) : avCells (l ++ [a]) = avCells l ++ [.bool a.must, .bool a.hidden, .int .i64 a.vendor, .int .i64 a.kind, .string a.val] := by simp [avCells, Av.cells]
theorem avCells_get (l : List Av) (i : Nat) {a : Av} (h : l[i]? = some a) (j : Nat) (hj : j < 5) : (avCells l)[i * 5 + j]? = a.cells[j]? := by
  induction l generalizing i with
  | nil => simp at h
  | cons b l ih =>
    have hlen : b.cells.length = 5 := rfl
    have hc : avCells (b :: l) = b.cells ++ avCells l := by simp [avCells]
    rw [hc]
    cases i with
    | zero =>
      simp at h; subst h
      rw [Nat.zero_mul, Nat.zero_add, List.getElem?_append_left (by omega)]
    | succ i =>
      rw [List.getElem?_append_right (by rw [hlen]; omega), hlen, show (i + 1) * 5 + j - 5 = i * 5 + j by omega]
      exact ih i (by simpa using h)
theorem AvsAt.of_own {w : World} {e : TypeId} {v : Value} {l : List Av} {own : List Nat} (h : Own w e 5 v l.length (avCells l) own) : AvsAt w v l := by
  obtain ⟨ao, cap, hv, h1, h2⟩ := h.shape
  refine ⟨ao, cap, hv, h1, h2, fun i t ht => ?_⟩
  have hi : 0 < l.length := by
    have := (List.getElem?_eq_some_iff.1 ht).1
    omega
  obtain ⟨g, off, cap', hv', _, _, _, h5⟩ := h.form hi
  rw [hv] at hv'
  injection hv' with e1 e2 e3
  refine ⟨_, e1, ?_⟩
  rw [add_plain']
  have key : ∀ j u, j < 5 → t.cells[j]? = some u → w.cell? ⟨g, off + i * 5 + j, none⟩ = some u := fun j u hj hu => by
    rw [Nat.add_assoc]
    exact h5 _ _ ((avCells_get l i ht j hj).trans hu)
  exact ⟨key 0 _ (by omega) rfl, key 1 _ (by omega) rfl, key 2 _ (by omega) rfl, key 3 _ (by omega) rfl, key 4 _ (by omega) rfl⟩
theorem AvsAt.of_blk {w : World} {g : Nat} {t : TypeId} {l : List Av} (h : Blk w g t (avCells l).toArray) (hl : l.length ≤ maxLen) : AvsAt w (.slice (some ⟨g, 0, none⟩) l.length l.length) l := by
  refine ⟨_, _, rfl, Nat.le_refl _, hl, fun i x hx => ⟨_, rfl, ?_⟩⟩
  rw [add_plain', Nat.zero_add]
  have key : ∀ j u, j < 5 → x.cells[j]? = some u → w.cell? ⟨g, i * 5 + j, none⟩ = some u := fun j u hj hu => by
    rw [h.cell]
    have := (avCells_get l i hx j hj).trans hu
    simpa using this
  exact ⟨key 0 _ (by omega) rfl, key 1 _ (by omega) rfl, key 2 _ (by omega) rfl, key 3 _ (by omega) rfl, key 4 _ (by omega) rfl⟩
/-- The slice without its first k values. -/
theorem AvsAt.drop {w : World} {q : Addr} {n cap : Nat} {l : List Av} (h : AvsAt w (.slice (some q) n cap) l) (k : Nat) (hk : k ≤ l.length) :
    AvsAt w (.slice (if cap = k then some q else some (q.add (k * 5))) (l.length - k) (cap - k)) (l.drop k) := by
  obtain ⟨ao', cap', e, h1, h2, h3⟩ := h
  injection e with e1 e2 e3
  subst e1 e3
  have hl : (l.drop k).length = l.length - k := List.length_drop ..
  refine ⟨_, _, by rw [hl], by omega, by omega, fun i t ht => ?_⟩
  have hil : i < l.length - k := by
    have := (List.getElem?_eq_some_iff.1 ht).1
    omega
  rw [List.getElem?_drop] at ht
  obtain ⟨q', e', k1⟩ := h3 _ t ht
  injection e' with e'
  subst e'
  rw [if_neg (by omega)]
  refine ⟨_, rfl, ?_⟩
  rw [add_add, ← Nat.add_mul]
  exact k1

theorem AvsAt.rd {w : World} {v : Value} {l : List Av} (h : AvsAt w v l) : Rd w 5 v l.length (avCells l) := by
  obtain ⟨ao, cap, rfl, h1, h2, h3⟩ := h
  refine ⟨ao, cap, rfl, h1, h2, avCells_length l, ?_, fun hn => ?_⟩
  · intro u hu
    simp only [avCells, List.mem_flatMap, Av.cells] at hu
    obtain ⟨t, _, hu⟩ := hu
    simp at hu
    rcases hu with rfl | rfl | rfl | rfl | rfl <;> rfl
  · obtain ⟨q, rfl, _⟩ := h3 0 l[0] (by simp [hn])
    refine ⟨q, rfl, fun j u hj => ?_⟩
    have hjl : j < l.length * 5 := by
      have := (List.getElem?_eq_some_iff.1 hj).1
      simpa using this
    obtain ⟨t, htt⟩ : ∃ t, l[j / 5]? = some t := ⟨_, List.getElem?_eq_getElem (by omega)⟩
    obtain ⟨q', e', k0, k1, k2, k3, k4⟩ := h3 (j / 5) t htt
    injection e' with e'
    subst e'
    have hcell := avCells_get l (j / 5) htt (j % 5) (by omega)
    rw [show j / 5 * 5 + j % 5 = j by omega, hj] at hcell
    have hjm : j % 5 = 0 ∨ j % 5 = 1 ∨ j % 5 = 2 ∨ j % 5 = 3 ∨ j % 5 = 4 := by omega
    have hja : q.add j = q.add (j / 5 * 5 + j % 5) := congrArg _ (by omega)
    rw [hja]
    rcases hjm with h | h | h | h | h
    · rw [h] at hcell ⊢; rw [Nat.add_zero]; rw [k0]; exact hcell.symm
    · rw [h] at hcell ⊢; rw [add_off _ _ _ (by omega), k1]; exact hcell.symm
    · rw [h] at hcell ⊢; rw [add_off _ _ _ (by omega), k2]; exact hcell.symm
    · rw [h] at hcell ⊢; rw [add_off _ _ _ (by omega), k3]; exact hcell.symm
    · rw [h] at hcell ⊢; rw [add_off _ _ _ (by omega), k4]; exact hcell.symm
end Go.Proofs.Ytcplhlokbnaabaa
