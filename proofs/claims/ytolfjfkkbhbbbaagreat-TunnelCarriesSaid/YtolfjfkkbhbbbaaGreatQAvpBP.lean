/- Plain: values that are put are got; cut they are short or fewer. No program in sight beyond what the walks compute. -/
import Derived.Test.YtolfjfkkbhbbbaaGreatQAvpP
import Derived.Test.YtolfjfkkbhbbbaaGreatQAvpH
namespace Go.Proofs.YtolfjfkkbhbbbaaGreat
open Go.RowKit
set_option linter.unusedSimpArgs false
set_option linter.unusedVariables false

def encsA (secret : ByteArray) : List Av → List Av → ByteArray
  | _, [] => ⟨#[]⟩
  | pre, a :: r => encA a (contentA a pre secret).1 ++ encsA secret (pre ++ [a]) r
def okA (secret : ByteArray) : List Av → List Av → Prop
  | _, [] => True
  | pre, a :: r => (contentA a pre secret).2 = 0 ∧ okA secret (pre ++ [a]) r

theorem putFromA_ok (secret : ByteArray) : ∀ (r pre : List Av) (out : ByteArray), (putFromA secret pre r out).2 = 0 → okA secret pre r ∧ (putFromA secret pre r out).1 = out ++ encsA secret pre r ∧ (putFromA secret pre r out).1.size ≤ 1488
  | [], pre, out, h => by
    rw [putFromA] at h ⊢
    by_cases t : 1488 < out.size
    · rw [if_pos t] at h; cases h
    · rw [if_neg t]
      refine ⟨trivial, ?_, by dsimp only; omega⟩
      rw [encsA]
      exact ByteArray.append_empty.symm
  | a :: r, pre, out, h => by
    rw [putFromA] at h ⊢
    by_cases t : (contentA a pre secret).2 ≠ 0
    · rw [if_pos t] at h; exact absurd h t
    · rw [if_neg t] at h ⊢
      obtain ⟨h1, h2, h3⟩ := putFromA_ok secret r _ _ h
      refine ⟨⟨Classical.not_not.1 t, h1⟩, ?_, h3⟩
      rw [h2, encsA, ByteArray.append_assoc]
theorem putFromA_bad (secret : ByteArray) : ∀ (r pre : List Av) (out : ByteArray), (putFromA secret pre r out).2 ≠ 0 → (putFromA secret pre r out).1 = ⟨#[]⟩
  | [], pre, out, h => by
    rw [putFromA] at h ⊢
    by_cases t : 1488 < out.size
    · rw [if_pos t]
    · rw [if_neg t] at h; exact absurd rfl h
  | a :: r, pre, out, h => by
    rw [putFromA] at h ⊢
    by_cases t : (contentA a pre secret).2 ≠ 0
    · rw [if_pos t]
    · rw [if_neg t] at h ⊢
      exact putFromA_bad secret r _ _ h
theorem putA_bad {l : List Av} {secret : ByteArray} (h : (putA l secret).2 ≠ 0) : (putA l secret).1 = ⟨#[]⟩ := by
  unfold putA at h ⊢
  by_cases t : 40 < l.length
  · rw [if_pos t]
  · rw [if_neg t] at h ⊢; exact putFromA_bad _ _ _ _ h
theorem putA_ok {l : List Av} {secret : ByteArray} (h : (putA l secret).2 = 0) : l.length ≤ 40 ∧ okA secret [] l ∧ (putA l secret).1 = encsA secret [] l ∧ (encsA secret [] l).size ≤ 1488 := by
  unfold putA at h ⊢
  by_cases t : 40 < l.length
  · rw [if_pos t] at h; cases h
  · rw [if_neg t] at h ⊢
    obtain ⟨h1, h2, h3⟩ := putFromA_ok _ _ _ _ h
    have h4 : (putFromA secret [] l ⟨#[]⟩).1 = encsA secret [] l := by rw [h2]; exact ByteArray.empty_append
    exact ⟨by omega, h1, h4, h4 ▸ h3⟩

theorem extract_app_left (s t : ByteArray) (i j : Nat) (h : j ≤ s.size) : (s ++ t).extract i j = s.extract i j := by
  apply ByteArray.ext
  apply Array.ext_getElem?
  intro k
  rw [ByteArray.data_extract, ByteArray.data_extract, Array.getElem?_extract, Array.getElem?_extract, ByteArray.data_append]
  have hs : s.data.size = s.size := rfl
  have ht : (s.data ++ t.data).size = s.size + t.size := by rw [Array.size_append]; rfl
  by_cases hk : k < j - i
  · rw [if_pos (by omega), if_pos (by omega), Array.getElem?_append_left (by omega)]
  · rw [if_neg (by omega), if_neg (by omega)]
/-- The head of a value laid, whatever stands behind. -/
theorem encA_head (a : Av) (c t : ByteArray) (hv : 0 ≤ a.vendor ∧ a.vendor ≤ 65535) (hk : 0 ≤ a.kind ∧ a.kind ≤ 65535) (hc : c.size ≤ 1002) :
    num (encA a c ++ t) 0 2 = flagsA a + c.size + 6 ∧ num (encA a c ++ t) 2 2 = a.vendor ∧ num (encA a c ++ t) 4 2 = a.kind ∧ (encA a c ++ t).extract 6 (c.size + 6) = c := by
  have hf := flagsA_bd a
  have z := encA_size a c
  obtain ⟨y1, h1⟩ : ∃ y, be 2 (flagsA a + c.size + 6) = y := ⟨_, rfl⟩
  obtain ⟨y2, h2⟩ : ∃ y, be 2 a.vendor = y := ⟨_, rfl⟩
  obtain ⟨y3, h3⟩ : ∃ y, be 2 a.kind = y := ⟨_, rfl⟩
  have z1 := be_size 2 (flagsA a + c.size + 6)
  have z2 := be_size 2 a.vendor
  have z3 := be_size 2 a.kind
  have n1 := num_be 2 (flagsA a + c.size + 6) (by omega)
  have n2 := num_be 2 a.vendor (by omega)
  have n3 := num_be 2 a.kind (by omega)
  rw [h1] at z1 n1
  rw [h2] at z2 n2
  rw [h3] at z3 n3
  rw [num_append_l _ _ _ _ (by omega), num_append_l _ _ _ _ (by omega), num_append_l _ _ _ _ (by omega), extract_app_left _ _ _ _ (by omega)]
  have e : encA a c = y1 ++ y2 ++ y3 ++ c := by rw [encA, h1, h2, h3]
  rw [e]
  have s12 : (y1 ++ y2).size = 4 := by rw [ByteArray.size_append]; omega
  have s123 : (y1 ++ y2 ++ y3).size = 6 := by rw [ByteArray.size_append]; omega
  refine ⟨?_, ?_, ?_, ?_⟩
  · rw [num_append_l _ _ _ _ (by omega), num_append_l _ _ _ _ (by omega), num_append_l _ _ _ _ (by omega), n1]
  · rw [num_append_l _ _ _ _ (by omega), num_append_l _ _ _ _ (by omega), num_append_r _ _ _ (by omega), z1, n2]
  · rw [num_append_l _ _ _ _ (by omega), num_append_r _ _ _ (by omega), s12, n3]
  · exact ByteArray.extract_append_eq_right (by omega) (by omega)

theorem be2_extract (x : ByteArray) (v : Int) (hv : 0 ≤ v ∧ v < 65536) : (be 2 v ++ x).size = 2 + x.size ∧ num (be 2 v ++ x) 0 2 = v ∧ (be 2 v ++ x).extract 2 (2 + x.size) = x := by
  have z := be_size 2 v
  refine ⟨by rw [ByteArray.size_append, z], ?_, ByteArray.extract_append_eq_right z.symm (by rw [z])⟩
  rw [num_append_l _ _ _ _ (by omega), num_be 2 v (by omega)]
/-- A hidden value is told again. -/
theorem shownA_content {a : Av} {pre : List Av} {secret : ByteArray} (h : (contentA a pre secret).2 = 0) (hh : a.hidden = true) : shownA a.kind (contentA a pre secret).1 secret pre = (a.val, 0) := by
  obtain ⟨h1, h2, h3⟩ := contentA_ok h
  rw [h3, if_neg (by simp [hh])]
  unfold contentA at h
  rw [if_neg (fun hn => hn h1), if_neg (by omega), if_neg (by simp [hh])] at h
  have t4 : ¬ secret.size = 0 := fun t => by rw [if_pos t] at h; cases h
  rw [if_neg t4] at h
  have t5 : ¬ (vec pre).2 = false := fun t => by rw [if_pos t] at h; cases h
  unfold shownA
  have e := unmaskB_maskB false a.kind secret (vec pre).1 (be 2 a.val.size ++ a.val)
  rw [Bool.not_false] at e
  obtain ⟨e1, e2, e3⟩ := be2_extract a.val a.val.size (by omega)
  rw [if_neg t4, if_neg t5, e, e1, e2, e3, if_neg (by omega)]
theorem oneA_enc {a : Av} {pre : List Av} {secret : ByteArray} (t : ByteArray) (h : (contentA a pre secret).2 = 0) (hp : pre.length < 40) :
    oneA (encA a (contentA a pre secret).1 ++ t) secret pre = (a, (contentA a pre secret).1.size + 6, 0) := by
  obtain ⟨h1, h2, h3⟩ := contentA_ok h
  have hc := contentA_size h
  have hs := @shownA_content a pre secret h
  obtain ⟨g1, g2, g3, g4⟩ := encA_head a (contentA a pre secret).1 t h1.1 h1.2 hc
  have hz : (encA a (contentA a pre secret).1 ++ t).size = 6 + (contentA a pre secret).1.size + t.size := by rw [ByteArray.size_append, encA_size]
  have hcz : a.hidden = false → (contentA a pre secret).1 = a.val := fun hh => by rw [h3, if_pos hh]
  generalize (contentA a pre secret).1 = c at *
  have hf : flagsA a = (if a.must = true then 32768 else 0) + (if a.hidden = true then 16384 else 0) := rfl
  obtain ⟨mu, hi, ve, kd, val⟩ := a
  dsimp only at *
  unfold oneA
  rw [if_neg (by omega), g1, g2, g3]
  dsimp only
  have hm : (flagsA ⟨mu, hi, ve, kd, val⟩ + c.size + 6).toNat = (if mu = true then 32768 else 0) + (if hi = true then 16384 else 0) + c.size + 6 := by
    rw [hf]
    cases mu <;> cases hi <;> simp <;> omega
  rw [hm]
  clear hm g1 g2 g3 hf
  cases mu <;> cases hi <;> simp only [Bool.false_eq_true, if_false, if_true, Nat.zero_add]
  · have hcv := hcz rfl
    have : (c.size + 6) % 1024 = c.size + 6 := by omega
    rw [if_neg (by omega), this, if_neg (by omega), if_neg (by rw [if_neg (by omega)]; subst hcv; omega), if_neg (by omega), g4, hcv]
    have : ¬ 32768 ≤ val.size + 6 := by omega
    simp [this]
  · have e : (16384 + c.size + 6) % 1024 = c.size + 6 := by omega
    rw [if_neg (by omega), e, if_neg (by omega), if_neg (by rw [if_pos (by omega)]; omega), if_pos (by omega), g4, hs rfl, if_neg (by simp)]
    have : ¬ 32768 ≤ 16384 + c.size + 6 := by omega
    simp [this]
  · have hcv := hcz rfl
    have e : (32768 + 0 + c.size + 6) % 1024 = c.size + 6 := by omega
    rw [if_neg (by omega), e, if_neg (by omega), if_neg (by rw [if_neg (by omega)]; subst hcv; omega), if_neg (by omega), g4, hcv]
    have : 32768 ≤ 32768 + 0 + val.size + 6 := by omega
    simp [this]
  · have e : (32768 + 16384 + c.size + 6) % 1024 = c.size + 6 := by omega
    rw [if_neg (by omega), e, if_neg (by omega), if_neg (by rw [if_pos (by omega)]; omega), if_pos (by omega), g4, hs rfl, if_neg (by simp)]
    have : 32768 ≤ 32768 + 16384 + c.size + 6 := by omega
    simp [this]

theorem getFromA_enc (secret : ByteArray) : ∀ (r pre : List Av) (f : Nat), okA secret pre r → pre.length + r.length ≤ 40 → (encsA secret pre r).size ≤ f → getFromA secret f (encsA secret pre r) pre = (pre ++ r, 0)
  | [], pre, f, h, hl, hf => by
    rw [encsA, List.append_nil]
    cases f with
    | zero => rfl
    | succ f => rw [getFromA, if_pos (by rfl)]
  | a :: r, pre, f, h, hl, hf => by
    rw [encsA] at hf ⊢
    have hc := contentA_size h.1
    have z := encA_size a (contentA a pre secret).1
    rw [ByteArray.size_append, z] at hf
    simp only [List.length_cons] at hl
    have ho := oneA_enc (encsA secret (pre ++ [a]) r) h.1 (show pre.length < 40 by omega)
    have hz : (encA a (contentA a pre secret).1 ++ encsA secret (pre ++ [a]) r).size = 6 + (contentA a pre secret).1.size + (encsA secret (pre ++ [a]) r).size := by rw [ByteArray.size_append, z]
    cases f with
    | zero => omega
    | succ f =>
      rw [getFromA, if_neg (by omega), ho]
      dsimp only
      rw [if_neg (by simp), hz, ByteArray.extract_append_eq_right (by omega) (by omega)]
      rw [getFromA_enc secret r (pre ++ [a]) f h.2 (by simp; omega) (by omega), List.append_assoc]
      rfl
theorem extract_all0 (s : ByteArray) (c : Nat) (h : s.size ≤ c) : s.extract 0 c = s := by
  apply ByteArray.ext
  rw [ByteArray.data_extract]
  exact Array.extract_eq_self_of_le h
theorem extract_app_cut (s t : ByteArray) (c : Nat) (h : s.size ≤ c) : (s ++ t).extract 0 c = s ++ t.extract 0 (c - s.size) := by
  rw [ByteArray.extract_append, extract_all0 s c h]
  congr 2
  omega
theorem num2_cut (s : ByteArray) (c i : Nat) (h : i + 2 ≤ c) : num (s.extract 0 c) i 2 = num s i 2 := by
  have hb : ∀ j, j < c → byte (s.extract 0 c) j = byte s j := fun j hj => by
    unfold byte
    rw [ByteArray.data_extract, Array.getElem?_extract]
    by_cases hjs : j < s.size
    · have : s.data.size = s.size := rfl
      rw [if_pos (by omega), Nat.zero_add]
    · have : s.data.size = s.size := rfl
      rw [if_neg (by omega), Array.getElem?_eq_none (by omega)]
  rw [num, num, num, num, num, num, hb _ (by omega), hb _ (by omega)]
/-- Cut within a value: short. -/
theorem oneA_cut {a : Av} {pre : List Av} {secret : ByteArray} (t : ByteArray) (h : (contentA a pre secret).2 = 0) (c : Nat) (hc : c < 6 + (contentA a pre secret).1.size) :
    (oneA ((encA a (contentA a pre secret).1 ++ t).extract 0 c) secret pre).2.2 = 5 := by
  obtain ⟨h1, h2, h3⟩ := contentA_ok h
  have hcc := contentA_size h
  obtain ⟨g1, g2, g3, g4⟩ := encA_head a (contentA a pre secret).1 t h1.1 h1.2 hcc
  have hz : (encA a (contentA a pre secret).1 ++ t).size = 6 + (contentA a pre secret).1.size + t.size := by rw [ByteArray.size_append, encA_size]
  have hf := flagsA_bd a
  generalize (contentA a pre secret).1 = x at *
  have hz2 : ((encA a x ++ t).extract 0 c).size = c := by rw [ByteArray.size_extract]; omega
  unfold oneA
  rw [hz2]
  by_cases t1 : c < 6
  · rw [if_pos t1]
  rw [if_neg t1, num2_cut _ _ _ (by omega), g1]
  dsimp only
  obtain ⟨m, hm⟩ : ∃ m : Nat, flagsA a = m := Int.eq_ofNat_of_zero_le hf.1
  rw [hm] at hf ⊢
  have e : ((m : Int) + x.size + 6).toNat = m + x.size + 6 := by omega
  have hm2 : m % 16384 = 0 := by omega
  rw [e, if_neg (by omega), if_pos (by omega)]
theorem getFromA_cut (secret : ByteArray) : ∀ (r pre : List Av) (f c : Nat), okA secret pre r → pre.length + r.length ≤ 40 → c < (encsA secret pre r).size → c ≤ f →
    getFromA secret f ((encsA secret pre r).extract 0 c) pre = ([], 5) ∨ ∃ k, k ≤ r.length ∧ getFromA secret f ((encsA secret pre r).extract 0 c) pre = (pre ++ r.take k, 0)
  | [], pre, f, c, h, hl, hc, hf => by
    have : (encsA secret pre []).size = 0 := rfl
    omega
  | a :: r, pre, f, c, h, hl, hc, hf => by
    have hz2 : ((encsA secret pre (a :: r)).extract 0 c).size = c := by rw [ByteArray.size_extract]; omega
    by_cases t0 : c = 0
    · refine .inr ⟨0, Nat.zero_le _, ?_⟩
      rw [List.take_zero, List.append_nil]
      cases f with
      | zero => rfl
      | succ f => rw [getFromA, if_pos (by omega)]
    · obtain ⟨f, rfl⟩ : ∃ g, f = g + 1 := ⟨f - 1, by omega⟩
      simp only [List.length_cons] at hl
      have z := encA_size a (contentA a pre secret).1
      have hz : (encsA secret pre (a :: r)).size = 6 + (contentA a pre secret).1.size + (encsA secret (pre ++ [a]) r).size := by rw [encsA, ByteArray.size_append, z]
      rw [getFromA, if_neg (by omega), hz2]
      by_cases t1 : c < 6 + (contentA a pre secret).1.size
      · have := oneA_cut (encsA secret (pre ++ [a]) r) h.1 c t1
        rw [encsA, this, if_pos (by decide)]
        exact .inl rfl
      · have he : (encsA secret pre (a :: r)).extract 0 c = encA a (contentA a pre secret).1 ++ (encsA secret (pre ++ [a]) r).extract 0 (c - (encA a (contentA a pre secret).1).size) := by
          rw [encsA]
          exact extract_app_cut _ _ _ (by omega)
        rw [he, oneA_enc _ h.1 (by omega)]
        dsimp only
        rw [if_neg (by simp), ByteArray.extract_append_eq_right (by omega) (by rw [z, ByteArray.size_extract]; omega)]
        rcases getFromA_cut secret r (pre ++ [a]) f (c - (encA a (contentA a pre secret).1).size) h.2 (by simp; omega) (by omega) (by omega) with h5 | ⟨k, hk, h5⟩
        · exact .inl h5
        · refine .inr ⟨k + 1, by simp; omega, ?_⟩
          rw [h5, List.take_succ_cons, List.append_assoc]
          rfl
theorem getA_put {l : List Av} {secret : ByteArray} (h : (putA l secret).2 = 0) : getA (putA l secret).1 secret = (l, 0) := by
  obtain ⟨h1, h2, h3, h4⟩ := putA_ok h
  rw [h3, getA, getFromA_enc secret l [] _ h2 (by simpa using h1) (Nat.le_refl _)]
  rfl
theorem getA_cut {l : List Av} {secret : ByteArray} (h : (putA l secret).2 = 0) (c : Nat) (hc : c < (putA l secret).1.size) :
    getA ((putA l secret).1.extract 0 c) secret = ([], 5) ∨ ∃ k, k ≤ l.length ∧ getA ((putA l secret).1.extract 0 c) secret = (l.take k, 0) := by
  obtain ⟨h1, h2, h3, h4⟩ := putA_ok h
  rw [h3] at hc ⊢
  have hz : ((encsA secret [] l).extract 0 c).size = c := by rw [ByteArray.size_extract]; omega
  rw [getA, hz]
  exact getFromA_cut secret l [] c c h2 (by simpa using h1) hc (Nat.le_refl _)
end Go.Proofs.YtolfjfkkbhbbbaaGreat
