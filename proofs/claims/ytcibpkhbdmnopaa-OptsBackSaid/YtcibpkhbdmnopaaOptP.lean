/- Plain: options and packets that were put are got; cut they are short. -/
import Derived.Test.YtcibpkhbdmnopaaOptF
namespace Go.Proofs.Ytcibpkhbdmnopaa
open Go.RowKit
set_option linter.unusedSimpArgs false
set_option linter.unusedVariables false

theorem mid_eq (a s r : ByteArray) {i j : Nat} (hi : i = a.size) (hj : j = a.size + s.size) : (a ++ (s ++ r)).extract i j = s := by
  subst hi hj
  have h := @ByteArray.extract_append_size_add a (s ++ r) 0 s.size
  simp only [Nat.add_zero] at h
  rw [h]
  exact ByteArray.extract_append_eq_left rfl
def optOk (t : Tg) : Prop := 1 ≤ t.k ∧ t.k ≤ 255 ∧ t.s.size ≤ 253
theorem nums_byte (l : List Int) (r : ByteArray) (i : Nat) (x : Int) (h : l[i]? = some x) (hx : 0 ≤ x ∧ x ≤ 255) : byte (strOfNums l ++ r) i = x := by
  have hi : i < l.length := (List.getElem?_eq_some_iff.1 h).1
  rw [append_byte_l _ _ _ (by rw [strOfNums_size]; exact hi)]
  simp only [byte, strOfNums]
  simp [h]
  omega
theorem opt_0 {t : Tg} (h : optOk t) (r : ByteArray) : byte (t.obytes ++ r) 0 = t.k := by
  rw [Tg.obytes, ByteArray.append_assoc]
  exact nums_byte _ _ 0 _ rfl ⟨by have := h.1; omega, h.2.1⟩
theorem opt_1 {t : Tg} (h : optOk t) (r : ByteArray) : byte (t.obytes ++ r) 1 = t.s.size + 2 := by
  rw [Tg.obytes, ByteArray.append_assoc]
  exact nums_byte _ _ 1 _ rfl ⟨by omega, by have := h.2.2; omega⟩
theorem getOptFrom_opt {m : Nat} {t : Tg} {r : ByteArray} {out : List Tg} (h : optOk t) (hm : (t.obytes ++ r).size ≤ m) :
    getOptFrom m (t.obytes ++ r) out = if 30 ≤ out.length then ([], 2) else getOptFrom (m - 1) r (out ++ [t]) := by
  have hsz : (t.obytes ++ r).size = 2 + t.s.size + r.size := by rw [ByteArray.size_append, obytes_size]
  have h1 := h.1
  rw [getOptFrom_step _ _ _ hm (by omega), if_neg (by omega), opt_0 h, opt_1 h, if_neg (by omega), if_neg (by omega)]
  have e1 : ((t.s.size : Int) + 2).toNat = t.s.size + 2 := by omega
  rw [e1]
  have e2 : (t.obytes ++ r).extract 2 (t.s.size + 2) = t.s := by
    rw [Tg.obytes, ByteArray.append_assoc]
    exact mid_eq _ _ _ (by simp [strOfNums_size]) (by simp [strOfNums_size]; omega)
  have e3 : (t.obytes ++ r).extract (t.s.size + 2) (t.obytes ++ r).size = r :=
    ByteArray.extract_append_eq_right (by rw [obytes_size]; omega) (by rw [ByteArray.size_append])
  rw [e2, e3]
theorem encOpts_append (l m : List Tg) : encOpts (l ++ m) = encOpts l ++ encOpts m := by
  induction l with
  | nil => exact (ByteArray.empty_append).symm
  | cons t l ih => rw [List.cons_append, encOpts, encOpts, ih, ByteArray.append_assoc]
theorem getOptFrom_all (l : List Tg) (hl : ∀ t ∈ l, optOk t) : ∀ (m : Nat) (out : List Tg), (encOpts l).size ≤ m → out.length ≤ 30 →
    getOptFrom m (encOpts l) out = if 30 < out.length + l.length then ([], 2) else (out ++ l, 0) := by
  induction l with
  | nil =>
    intro m out hm h30
    rw [getOptFrom_zero _ _ _ (by rfl), if_neg (by simp; omega)]
    simp
  | cons t l ih =>
    intro m out hm h30
    have ht := hl t (by simp)
    rw [encOpts] at hm ⊢
    rw [getOptFrom_opt ht hm, List.length_cons]
    have hsz : (t.obytes ++ encOpts l).size = 2 + t.s.size + (encOpts l).size := by rw [ByteArray.size_append, obytes_size]
    by_cases h : 30 ≤ out.length
    · rw [if_pos h, if_pos (by omega)]
    · rw [if_neg h, ih (fun x hx => hl x (by simp [hx])) (m - 1) (out ++ [t]) (by omega) (by simp; omega)]
      simp only [List.length_append, List.length_singleton, List.append_assoc, List.singleton_append]
      by_cases h2 : 30 < out.length + 1 + l.length
      · rw [if_pos h2, if_pos (by omega)]
      · rw [if_neg h2, if_neg (by omega)]
theorem getOpts_all (l : List Tg) (hl : ∀ t ∈ l, optOk t) : getOpts (encOpts l) = if 30 < l.length then ([], 2) else (l, 0) := by
  rw [getOpts, getOptFrom_all l hl _ _ (Nat.le_refl _) (by simp)]
  simp
theorem putOpts_bad {l : List Tg} {b : ByteArray} {e : Int} (h : putOpts l = (b, e)) (he : e ≠ 0) : b = ⟨#[]⟩ := by
  unfold putOpts at h
  split at h
  · exact (Prod.ext_iff.1 h).1.symm
  · split at h
    · exact (Prod.ext_iff.1 h).1.symm
    · exact absurd (Prod.ext_iff.1 h).2.symm he

/-! ### packets -/
def pkHead (c i : Int) (n : Nat) : ByteArray := strOfNums [c % 256, i % 256] ++ be 2 ((n : Int) + 4)
theorem pkHead_size (c i : Int) (n : Nat) : (pkHead c i n).size = 4 := by simp [pkHead, ByteArray.size_append, be_size, strOfNums_size]
theorem layB_ok {c i : Int} {b s : ByteArray} (h : layB c i b = (s, 0)) : s = pkHead c i b.size ++ b ∧ b.size ≤ 1488 := by
  unfold layB at h
  split at h
  · simp at h
  · exact ⟨(Prod.ext_iff.1 h).1.symm, by omega⟩
theorem layB_bad {c i : Int} {b s : ByteArray} {e : Int} (h : layB c i b = (s, e)) (he : e ≠ 0) : s = ⟨#[]⟩ := by
  unfold layB at h
  split at h
  · exact (Prod.ext_iff.1 h).1.symm
  · exact absurd (Prod.ext_iff.1 h).2.symm he
theorem ofData_back (c i : Int) (hc : 0 ≤ c ∧ c ≤ 255) (hi : 0 ≤ i ∧ i ≤ 255) (b more : ByteArray) (hb : b.size ≤ 1488) : Pk.ofData (pkHead c i b.size ++ b ++ more) = (⟨c, i, [], b⟩, 0) := by
  have hs := pkHead_size c i b.size
  have hsz : (pkHead c i b.size ++ b ++ more).size = 4 + b.size + more.size := by simp only [ByteArray.size_append, hs]
  have hn : num (pkHead c i b.size ++ b ++ more) 2 2 = b.size + 4 := by
    rw [ByteArray.append_assoc, num_append_l _ _ _ _ (by omega), pkHead, num_append_r _ _ _ (by simp [strOfNums_size])]
    rw [show 2 - (strOfNums [c % 256, i % 256]).size = 0 by simp [strOfNums_size], num_be _ _ (by constructor <;> omega)]
  have h0 : byte (pkHead c i b.size ++ b ++ more) 0 = c := by
    rw [ByteArray.append_assoc, pkHead, ByteArray.append_assoc]
    rw [nums_byte _ _ 0 (c % 256) rfl (by omega)]; omega
  have h1 : byte (pkHead c i b.size ++ b ++ more) 1 = i := by
    rw [ByteArray.append_assoc, pkHead, ByteArray.append_assoc]
    rw [nums_byte _ _ 1 (i % 256) rfl (by omega)]; omega
  rw [Pk.ofData, hsz, hn, h0, h1, if_neg (by omega), if_neg (by omega), if_neg (by omega), if_neg (by omega)]
  have e1 : ((b.size : Int) + 4).toNat = b.size + 4 := by omega
  rw [e1, ByteArray.append_assoc, mid_eq _ _ _ hs.symm (by rw [hs]; omega)]
theorem prefix_all (a : ByteArray) (k : Nat) (h : a.size ≤ k) : a.extract 0 k = a := by
  apply ByteArray.ext
  rw [ByteArray.data_extract]
  exact Array.extract_eq_self_of_le (by show a.size ≤ k; omega)
theorem ofData_cut (c i : Int) (b : ByteArray) (hb : b.size ≤ 1488) (k : Nat) (hk : k < (pkHead c i b.size ++ b).size) : (Pk.ofData ((pkHead c i b.size ++ b).extract 0 k)).2 = 5 := by
  have hs := pkHead_size c i b.size
  have hz : (pkHead c i b.size ++ b).size = 4 + b.size := by simp only [ByteArray.size_append, hs]
  have hsz : ((pkHead c i b.size ++ b).extract 0 k).size = k := by rw [ByteArray.size_extract]; omega
  unfold Pk.ofData
  rw [hsz]
  by_cases h4 : k < 4
  · rw [if_pos h4]
  rw [if_neg h4]
  have e : (pkHead c i b.size ++ b).extract 0 k = pkHead c i b.size ++ b.extract 0 (k - 4) := by
    rw [ByteArray.extract_append, prefix_all _ _ (by omega), hs]
  have hn : num ((pkHead c i b.size ++ b).extract 0 k) 2 2 = b.size + 4 := by
    rw [e, num_append_l _ _ _ _ (by omega), pkHead, num_append_r _ _ _ (by simp [strOfNums_size])]
    rw [show 2 - (strOfNums [c % 256, i % 256]).size = 0 by simp [strOfNums_size], num_be _ _ (by constructor <;> omega)]
  rw [hn, if_neg (by omega), if_neg (by omega), if_pos (by omega)]
theorem numberedB_spec {c i : Int} (h : numberedB c i = true) : (0 ≤ c ∧ c ≤ 255) ∧ (0 ≤ i ∧ i ≤ 255) := by
  simp [numberedB] at h; omega
theorem get_cut {s : ByteArray} (h : (Pk.ofData s).2 = 5) : (Pk.get s).2 = 5 := by
  unfold Pk.get
  rw [if_pos (.inl (by rw [h]; decide))]
  exact h
theorem size_zero {b : ByteArray} (h : b.size = 0) : b = ⟨#[]⟩ := by
  apply ByteArray.ext
  exact Array.eq_empty_of_size_eq_zero h
theorem put_back {p : Pk} {s : ByteArray} (h : p.put = (s, 0)) : (∀ more, Pk.get (s ++ more) = (p, 0)) ∧ 4 ≤ s.size ∧ s.size ≤ 1492 ∧ ∀ k, k < s.size → (Pk.get (s.extract 0 k)).2 = 5 := by
  obtain ⟨c, i, l, d⟩ := p
  unfold Pk.put at h
  by_cases hb : Pk.bad ⟨c, i, l, d⟩ = true
  · rw [if_pos hb] at h; simp at h
  rw [if_neg hb] at h
  by_cases he : (putOpts l).2 ≠ 0
  · simp only at h
    rw [if_pos he] at h
    exact absurd (Prod.ext_iff.1 h).2 he
  simp only at h
  rw [if_neg he] at h
  obtain ⟨b, e0, hp⟩ : ∃ b e, putOpts l = (b, e) := ⟨_, _, rfl⟩
  rw [hp] at h he
  simp only at h he
  have he0 : e0 = 0 := Decidable.not_not.1 he
  subst he0
  obtain ⟨rfl, h30, hok⟩ := putOpts_ok hp
  obtain ⟨rfl, hsz⟩ := layB_ok h
  simp only [Pk.bad, Bool.or_eq_true, Bool.and_eq_true, Bool.not_eq_true', decide_eq_true_eq, decide_eq_false_iff_not, not_or, not_and, Bool.not_eq_false, Bool.not_eq_true] at hb
  obtain ⟨⟨hn, h1⟩, h2⟩ := hb
  obtain ⟨hc, hi⟩ := numberedB_spec hn
  have hhs := pkHead_size c i (encOpts l ++ d).size
  have hz : (pkHead c i (encOpts l ++ d).size ++ (encOpts l ++ d)).size = 4 + (encOpts l ++ d).size := by rw [ByteArray.size_append, hhs]
  refine ⟨fun more => ?_, by omega, by omega, fun k hk => get_cut (ofData_cut c i _ hsz k hk)⟩
  have hD := ofData_back c i hc hi (encOpts l ++ d) more hsz
  unfold Pk.get
  rw [hD]
  simp only
  cases ho : hasOpts c with
  | false =>
    rw [if_pos (.inr rfl)]
    have hl : l = [] := by
      cases l with
      | nil => rfl
      | cons t l => exact absurd (h1 (by simp)) (by rw [ho]; decide)
    subst hl
    have : encOpts [] ++ d = d := ByteArray.empty_append
    rw [this]
  | true =>
    rw [if_neg (by simp)]
    have hd : d = ⟨#[]⟩ := by
      apply size_zero
      rcases Nat.eq_zero_or_pos d.size with h0 | h0
      · exact h0
      · exact absurd (h2 (by omega)) (by rw [ho]; decide)
    subst hd
    have hee : encOpts l ++ ⟨#[]⟩ = encOpts l := ByteArray.append_empty
    have hg : getOpts (encOpts l) = (l, 0) := by
      rw [getOpts_all l (fun t ht => hok t ht)]
      exact if_neg (by omega)
    rw [hee, hg]
    simp
theorem put_bad {p : Pk} {s : ByteArray} {e : Int} (h : p.put = (s, e)) (he : e ≠ 0) : s = ⟨#[]⟩ := by
  unfold Pk.put at h
  split at h
  · exact (Prod.ext_iff.1 h).1.symm
  · split at h
    · exact (Prod.ext_iff.1 h).1.symm
    · exact layB_bad h he
theorem putData_back {p : Pk} {s : ByteArray} (h : p.putData = (s, 0)) : (∀ more, Pk.ofData (s ++ more) = (⟨p.code, p.id, [], p.data⟩, 0)) ∧ s.size ≤ 1492 := by
  obtain ⟨c, i, l, d⟩ := p
  unfold Pk.putData at h
  simp only at h ⊢
  split at h
  · simp at h
  · rename_i hn
    obtain ⟨rfl, hsz⟩ := layB_ok h
    have hn' : numberedB c i = true := by
      cases hh : numberedB c i with
      | true => rfl
      | false => exact absurd (.inl hh) hn
    obtain ⟨hc, hi⟩ := numberedB_spec hn'
    exact ⟨fun more => ofData_back c i hc hi d more hsz, by rw [ByteArray.size_append, pkHead_size]; omega⟩
end Go.Proofs.Ytcibpkhbdmnopaa
