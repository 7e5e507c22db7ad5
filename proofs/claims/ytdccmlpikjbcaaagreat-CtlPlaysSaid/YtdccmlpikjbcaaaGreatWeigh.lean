/- Slices of structs that came in, with the bounds that their reading gives for inner strings. No program in sight. -/
import Derived.Test.YtdccmlpikjbcaaaGreatOpen
import Derived.SizedLaws
namespace Go.Proofs.YtdccmlpikjbcaaaGreat
open Go.RowKit Go.ChangeShapes Go.WideShapes

section
variable {H : Type} {enc : TypeId × Value → H} {P : Program} {W : World}
/-- Each string, slice and map within is within reach. -/
def Wt (P : Program) (t : TypeId) (d : DataW H) : Prop := ∀ n ∈ d.weights P t, n ≤ reachBytes
theorem wt_each {ts : List TypeId} {ds : List (DataW H)} (h : (DataW.weightsEach P ts ds).all (· ≤ reachBytes) = true) {j : Nat} {t : TypeId} {d : DataW H} (ht : ts[j]? = some t) (hd : ds[j]? = some d) : Wt P t d := by
  intro n hn
  have := List.all_eq_true.1 h n (DataW.weights_mem_each ht hd n hn)
  simpa using this
theorem weights_mem_all {e : TypeId} : ∀ {ds : List (DataW H)} {d : DataW H}, d ∈ ds → ∀ n ∈ d.weights P e, n ∈ DataW.weightsAll P e ds
  | d0 :: ds, d, hd, n, hn => by
    simp only [DataW.weightsAll, List.mem_append]
    rcases List.mem_cons.1 hd with rfl | hd
    · exact .inl hn
    · exact .inr (weights_mem_all hd n hn)
  | [], _, hd, _, _ => by cases hd
theorem Wt.elem {t e : TypeId} {elems spare : List (DataW H)} (ht : P.underlying t = some (.slice e)) (h : Wt P t (.slice elems spare)) {d : DataW H} (hd : d ∈ elems) : Wt P e d := by
  intro n hn
  refine h n ?_
  simp only [DataW.weights, ht, List.mem_cons, List.mem_append]
  exact .inr (.inl (weights_mem_all hd n hn))
theorem Wt.cap {t e : TypeId} {elems spare : List (DataW H)} (ht : P.underlying t = some (.slice e)) (h : Wt P t (.slice elems spare)) : (elems.length + spare.length) * P.bytesOf e ≤ reachBytes :=
  h _ (by simp [DataW.weights, ht])
theorem Wt.part {t : TypeId} {fs : Array Field} {parts : List (DataW H)} (ht : P.underlying t = some (.struct fs)) (h : Wt P t (.agg parts)) {i : Nat} {f : Field} {d : DataW H} (hf : fs[i]? = some f) (hd : parts[i]? = some d) : Wt P f.type d := by
  intro n hn
  refine h n ?_
  simp only [DataW.weights, ht]
  exact DataW.weights_mem_each (j := i) (by simp [hf]) hd n hn
theorem Wt.string {t : TypeId} {s : List UInt8} (h : Wt P t (.lit (.string s) : DataW H)) : s.length ≤ reachBytes := h _ (by simp [DataW.weights])

/-- The slice is nil, or each of its elements lies at its address and reads by its type, within reach. -/
theorem slice_came_wt {t e : TypeId} {ao : Option Addr} {len cap : Nat} {d : DataW H} {p : List MemPlace}
    (ht : P.underlying t = some (.slice e)) (h : DataW.Trod enc P W 0 (fun _ => true) true t (.slice ao len cap) d p) (hw : Wt P t d) :
    (ao = none ∧ len = 0 ∧ cap = 0) ∨ ∃ a, ao = some a ∧ len ≤ cap ∧ cap ≤ maxLen ∧
      ∀ i, i < len → ∃ cs n x, W.cells? 0 (a.add (i * P.cellsOf e)) (P.cellsOf e) = some cs ∧ DataW.trod enc P W 0 (fun _ => true) true n e cs = some x ∧ Wt P e x.1 := by
  obtain ⟨fuel, hf⟩ := h
  rcases Go.Deep.open_slice ht hf with ⟨h1, _⟩ | ⟨a, l, c, m, n, D, Pl, h1, _, hl, hm, hmm, hx, hel⟩
  · left
    simp [Value.cells] at h1
    exact h1
  · right
    simp [Value.cells] at h1
    obtain ⟨rfl, rfl, rfl⟩ := h1
    have hd := (Prod.ext_iff.1 hx).1
    simp only at hd
    subst hd
    refine ⟨a, rfl, hl, hm, fun i hi => ?_⟩
    obtain ⟨cs, h1, h2⟩ := hel i (by simp at hmm; omega)
    exact ⟨cs, n, _, h1, h2, hw.elem ht (List.mem_map.2 ⟨i, List.mem_range.2 hi, rfl⟩)⟩
theorem field_string_wt {e : TypeId} {n : Nat} {cs : List Value} {x : DataW H × List MemPlace} {fs : Array Field} {f : Field} (i : Nat)
    (hs : P.underlying e = some (.struct fs)) (h : DataW.trod enc P W 0 (fun _ => true) true n e cs = some x) (hw : Wt P e x.1) (hf : fs[i]? = some f) (hk : P.underlying f.type = some .string) (hc : P.cellsOf f.type = 1) :
    ∃ v, cs[f.offset]? = some (.string v) ∧ v.size ≤ reachBytes := by
  obtain ⟨xs, m, _, hx, hl, hxs, hall⟩ := DataW.trod_struct hs h
  have h1 := hall i f hf
  rw [hc] at h1
  have hi : i < xs.length := by rw [hxs]; exact (Array.getElem?_eq_some_iff.1 hf).1
  rw [List.getElem?_eq_getElem hi] at h1
  obtain ⟨v, hv, hv2, _⟩ := DataW.trod_string hk h1
  refine ⟨v, ?_, ?_⟩
  · have := congrArg (fun l => l[0]?) hv
    simpa [List.getElem?_take, List.getElem?_drop] using this
  · rw [hx] at hw
    have h2 := hw.part hs (i := i) (d := (xs[i]).1) hf (by simp [List.getElem?_eq_getElem hi])
    rw [hv2] at h2
    have h3 := h2.string
    exact h3
theorem reach_le : reachBytes ≤ 140737488355328 := by decide
end

theorem choose_list {α : Type} {n : Nat} {p : Nat → α → Prop} (h : ∀ i, i < n → ∃ x, p i x) : ∃ l : List α, l.length = n ∧ ∀ i x, l[i]? = some x → p i x := by
  induction n with
  | zero => exact ⟨[], rfl, by simp⟩
  | succ n ih =>
    obtain ⟨l, hl, h1⟩ := ih (fun i hi => h i (by omega))
    obtain ⟨x, hx⟩ := h n (by omega)
    refine ⟨l ++ [x], by simp [hl], fun i y hy => ?_⟩
    by_cases hi : i < l.length
    · rw [List.getElem?_append_left hi] at hy
      exact h1 i y hy
    · have hil : i = l.length := by
        have := (List.getElem?_eq_some_iff.1 hy).1
        simp at this
        omega
      subst hil
      simp at hy
      subst hy
      rw [hl]; exact hx
end Go.Proofs.YtdccmlpikjbcaaaGreat
