/- A slice of structs that came in: its cells, element by element. No program in sight. -/
import Derived.WalkKit
import Derived.ProofKit
import Derived.Deep.Slices
namespace Go.Proofs.YtdccmlpikjbcaaaGreat
open Go.RowKit Go.ChangeShapes Go.WideShapes

/-- The slice is nil, or each of its elements lies at its address and reads by its type. -/
theorem slice_came {H : Type} {enc : TypeId × Value → H} {P : Program} {W : World} {t e : TypeId} {ao : Option Addr} {len cap : Nat} {d : DataW H} {p : List MemPlace}
    (ht : P.underlying t = some (.slice e)) (h : DataW.Trod enc P W 0 (fun _ => true) true t (.slice ao len cap) d p) :
    (ao = none ∧ len = 0 ∧ cap = 0) ∨ ∃ a, ao = some a ∧ len ≤ cap ∧ cap ≤ maxLen ∧
      ∀ i, i < len → ∃ cs n x, W.cells? 0 (a.add (i * P.cellsOf e)) (P.cellsOf e) = some cs ∧ DataW.trod enc P W 0 (fun _ => true) true n e cs = some x := by
  obtain ⟨fuel, hf⟩ := h
  rcases Go.Deep.open_slice ht hf with ⟨h1, _⟩ | ⟨a, l, c, m, n, D, Pl, h1, _, hl, hm, hmm, _, hel⟩
  · left
    simp [Value.cells] at h1
    exact h1
  · right
    simp [Value.cells] at h1
    obtain ⟨rfl, rfl, rfl⟩ := h1
    refine ⟨a, rfl, hl, hm, fun i hi => ?_⟩
    obtain ⟨cs, h1, h2⟩ := hel i (by simp at hmm; omega)
    exact ⟨cs, n, _, h1, h2⟩
theorem cell_of_cells {W : World} {base n : Nat} {a : Addr} {cs : List Value} (h : W.cells? base a n = some cs) (j : Nat) (hj : j < n) : W.cell? (a.add j) = cs[j]? := by
  obtain ⟨_, h1, h2⟩ := World.cells?_some h
  exact h2 j hj
theorem field_int {H : Type} {enc : TypeId × Value → H} {P : Program} {W : World} {e : TypeId} {n : Nat} {cs : List Value} {x : DataW H × List MemPlace} {fs : Array Field} {f : Field} {k : IntKind} (i : Nat)
    (hs : P.underlying e = some (.struct fs)) (h : DataW.trod enc P W 0 (fun _ => true) true n e cs = some x) (hf : fs[i]? = some f) (hk : P.underlying f.type = some (.int k)) (hc : P.cellsOf f.type = 1) :
    ∃ v, cs[f.offset]? = some (.int k v) ∧ (Lit.int k v).wf = true := by
  obtain ⟨xs, m, _, _, hl, hxs, hall⟩ := DataW.trod_struct hs h
  have h1 := hall i f hf
  rw [hc] at h1
  have hi : i < xs.length := by rw [hxs]; exact (Array.getElem?_eq_some_iff.1 hf).1
  rw [List.getElem?_eq_getElem hi] at h1
  obtain ⟨v, hv, _, hw⟩ := DataW.trod_int hk h1
  refine ⟨v, ?_, hw⟩
  have := congrArg (fun l => l[0]?) hv
  simpa [List.getElem?_take, List.getElem?_drop] using this
theorem field_string {H : Type} {enc : TypeId × Value → H} {P : Program} {W : World} {e : TypeId} {n : Nat} {cs : List Value} {x : DataW H × List MemPlace} {fs : Array Field} {f : Field} (i : Nat)
    (hs : P.underlying e = some (.struct fs)) (h : DataW.trod enc P W 0 (fun _ => true) true n e cs = some x) (hf : fs[i]? = some f) (hk : P.underlying f.type = some .string) (hc : P.cellsOf f.type = 1) :
    ∃ v, cs[f.offset]? = some (.string v) ∧ v.size ≤ maxLen := by
  obtain ⟨xs, m, _, _, hl, hxs, hall⟩ := DataW.trod_struct hs h
  have h1 := hall i f hf
  rw [hc] at h1
  have hi : i < xs.length := by rw [hxs]; exact (Array.getElem?_eq_some_iff.1 hf).1
  rw [List.getElem?_eq_getElem hi] at h1
  obtain ⟨v, hv, _, hw⟩ := DataW.trod_string hk h1
  refine ⟨v, ?_, hw⟩
  have := congrArg (fun l => l[0]?) hv
  simpa [List.getElem?_take, List.getElem?_drop] using this
theorem field_bool {H : Type} {enc : TypeId × Value → H} {P : Program} {W : World} {e : TypeId} {n : Nat} {cs : List Value} {x : DataW H × List MemPlace} {fs : Array Field} {f : Field} (i : Nat)
    (hs : P.underlying e = some (.struct fs)) (h : DataW.trod enc P W 0 (fun _ => true) true n e cs = some x) (hf : fs[i]? = some f) (hk : P.underlying f.type = some .bool) (hc : P.cellsOf f.type = 1) :
    ∃ v, cs[f.offset]? = some (.bool v) := by
  obtain ⟨xs, m, _, _, hl, hxs, hall⟩ := DataW.trod_struct hs h
  have h1 := hall i f hf
  rw [hc] at h1
  have hi : i < xs.length := by rw [hxs]; exact (Array.getElem?_eq_some_iff.1 hf).1
  rw [List.getElem?_eq_getElem hi] at h1
  obtain ⟨v, hv, _⟩ := DataW.trod_bool hk h1
  refine ⟨v, ?_⟩
  have := congrArg (fun l => l[0]?) hv
  simpa [List.getElem?_take, List.getElem?_drop] using this
theorem add_add (a : Addr) (i j : Nat) : (a.add i).add j = a.add (i + j) := by
  unfold Addr.add
  by_cases hi : i = 0 <;> by_cases hj : j = 0 <;> simp [hi, hj, Nat.add_assoc]
theorem add_block (a : Addr) (n : Nat) : (a.add n).block = a.block := by unfold Addr.add; split <;> rfl
end Go.Proofs.YtdccmlpikjbcaaaGreat
