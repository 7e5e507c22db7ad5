/- Plain: options that were put are got (for seats without opts' packets). -/
import Derived.Test.YteflpekokgdllaaOptC
namespace Go.Proofs.Yteflpekokgdllaa
open Go.RowKit
set_option linter.unusedSimpArgs false
set_option linter.unusedVariables false

theorem encOpts_size (l : List Tg) (h : ∀ t ∈ l, t.s.size ≤ 253) : (encOpts l).size ≤ l.length * 255 := by
  induction l with
  | nil => exact Nat.le_refl _
  | cons t l ih =>
    have h1 := ih (fun x hx => h x (by simp [hx]))
    have h2 := h t (by simp)
    rw [encOpts, ByteArray.size_append, obytes_size, List.length_cons, Nat.add_mul]
    omega
theorem putOpts_ok {l : List Tg} {b : ByteArray} (h : putOpts l = (b, 0)) : b = encOpts l ∧ l.length ≤ 30 ∧ ∀ t ∈ l, 1 ≤ t.k ∧ t.k ≤ 255 ∧ t.s.size ≤ 253 := by
  unfold putOpts at h
  split at h
  · simp at h
  · split at h
    · simp at h
    · rename_i h1 h2
      refine ⟨(Prod.ext_iff.1 h).1.symm, by omega, fun t ht => ?_⟩
      have : ¬ optWrong t = true := fun h => h2 (List.any_eq_true.2 ⟨t, ht, h⟩)
      simp [optWrong] at this
      exact ⟨this.1.1, this.1.2, this.2⟩
theorem putOpts_size (l : List Tg) : (putOpts l).1.size ≤ 7650 := by
  obtain ⟨b, e, h⟩ : ∃ b e, putOpts l = (b, e) := ⟨_, _, rfl⟩
  rw [h]
  by_cases he : e = 0
  · subst he
    obtain ⟨rfl, h1, h2⟩ := putOpts_ok h
    have := encOpts_size l (fun t ht => (h2 t ht).2.2)
    have h3 : l.length * 255 ≤ 30 * 255 := Nat.mul_le_mul_right _ h1
    simp only
    omega
  · unfold putOpts at h
    split at h
    · rw [← (Prod.ext_iff.1 h).1]; decide
    · split at h
      · rw [← (Prod.ext_iff.1 h).1]; decide
      · exact absurd (Prod.ext_iff.1 h).2.symm he
theorem mid_eq (a s r : ByteArray) {i j : Nat} (hi : i = a.size) (hj : j = a.size + s.size) : (a ++ (s ++ r)).extract i j = s := by
  subst hi hj
  have h := @ByteArray.extract_append_size_add a (s ++ r) 0 s.size
  simp only [Nat.add_zero] at h
  rw [h]
  exact ByteArray.extract_append_eq_left rfl
def optOk (t : Tg) : Prop := 1 ≤ t.k ∧ t.k ≤ 255 ∧ t.s.size ≤ 253
theorem nums_byte (l : List Int) (r : ByteArray) (i : Nat) (x : Int) (h : l[i]? = some x) (hx : 0 ≤ x ∧ x ≤ 255) : byte (strOfNums l ++ r) i = x := by
  have hi : i < l.length := (List.getElem?_eq_some_iff.1 h).1
  rw [append_byte_l _ _ _ (by rw [strOfNums_size]; exact hi)]
  simp only [byte, strOfNums]
  simp [h]
  omega
theorem opt_0 {t : Tg} (h : optOk t) (r : ByteArray) : byte (t.obytes ++ r) 0 = t.k := by
  rw [Tg.obytes, ByteArray.append_assoc]
  exact nums_byte _ _ 0 _ rfl ⟨by have := h.1; omega, h.2.1⟩
theorem opt_1 {t : Tg} (h : optOk t) (r : ByteArray) : byte (t.obytes ++ r) 1 = t.s.size + 2 := by
  rw [Tg.obytes, ByteArray.append_assoc]
  exact nums_byte _ _ 1 _ rfl ⟨by omega, by have := h.2.2; omega⟩
theorem getOptFrom_opt {m : Nat} {t : Tg} {r : ByteArray} {out : List Tg} (h : optOk t) (hm : (t.obytes ++ r).size ≤ m) :
    getOptFrom m (t.obytes ++ r) out = if 30 ≤ out.length then ([], 2) else getOptFrom (m - 1) r (out ++ [t]) := by
  have hsz : (t.obytes ++ r).size = 2 + t.s.size + r.size := by rw [ByteArray.size_append, obytes_size]
  have h1 := h.1
  rw [getOptFrom_step _ _ _ hm (by omega), if_neg (by omega), opt_0 h, opt_1 h, if_neg (by omega), if_neg (by omega)]
  have e1 : ((t.s.size : Int) + 2).toNat = t.s.size + 2 := by omega
  rw [e1]
  have e2 : (t.obytes ++ r).extract 2 (t.s.size + 2) = t.s := by
    rw [Tg.obytes, ByteArray.append_assoc]
    exact mid_eq _ _ _ (by simp [strOfNums_size]) (by simp [strOfNums_size]; omega)
  have e3 : (t.obytes ++ r).extract (t.s.size + 2) (t.obytes ++ r).size = r :=
    ByteArray.extract_append_eq_right (by rw [obytes_size]; omega) (by rw [ByteArray.size_append])
  rw [e2, e3]
theorem encOpts_append (l m : List Tg) : encOpts (l ++ m) = encOpts l ++ encOpts m := by
  induction l with
  | nil => exact (ByteArray.empty_append).symm
  | cons t l ih => rw [List.cons_append, encOpts, encOpts, ih, ByteArray.append_assoc]
theorem getOptFrom_all (l : List Tg) (hl : ∀ t ∈ l, optOk t) : ∀ (m : Nat) (out : List Tg), (encOpts l).size ≤ m → out.length ≤ 30 →
    getOptFrom m (encOpts l) out = if 30 < out.length + l.length then ([], 2) else (out ++ l, 0) := by
  induction l with
  | nil =>
    intro m out hm h30
    rw [getOptFrom_zero _ _ _ (by rfl), if_neg (by simp; omega)]
    simp
  | cons t l ih =>
    intro m out hm h30
    have ht := hl t (by simp)
    rw [encOpts] at hm ⊢
    rw [getOptFrom_opt ht hm, List.length_cons]
    have hsz : (t.obytes ++ encOpts l).size = 2 + t.s.size + (encOpts l).size := by rw [ByteArray.size_append, obytes_size]
    by_cases h : 30 ≤ out.length
    · rw [if_pos h, if_pos (by omega)]
    · rw [if_neg h, ih (fun x hx => hl x (by simp [hx])) (m - 1) (out ++ [t]) (by omega) (by simp; omega)]
      simp only [List.length_append, List.length_singleton, List.append_assoc, List.singleton_append]
      by_cases h2 : 30 < out.length + 1 + l.length
      · rw [if_pos h2, if_pos (by omega)]
      · rw [if_neg h2, if_neg (by omega)]
theorem getOpts_all (l : List Tg) (hl : ∀ t ∈ l, optOk t) : getOpts (encOpts l) = if 30 < l.length then ([], 2) else (l, 0) := by
  rw [getOpts, getOptFrom_all l hl _ _ (Nat.le_refl _) (by simp)]
  simp
theorem putOpts_bad {l : List Tg} {b : ByteArray} {e : Int} (h : putOpts l = (b, e)) (he : e ≠ 0) : b = ⟨#[]⟩ := by
  unfold putOpts at h
  split at h
  · exact (Prod.ext_iff.1 h).1.symm
  · split at h
    · exact (Prod.ext_iff.1 h).1.symm
    · exact absurd (Prod.ext_iff.1 h).2.symm he

/-! ### packets -/
end Go.Proofs.Yteflpekokgdllaa
