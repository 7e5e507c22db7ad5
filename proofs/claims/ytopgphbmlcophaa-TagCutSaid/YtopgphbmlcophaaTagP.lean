/- Plain: what was put is got; cut it is short; too many are too long. -/
import Derived.Test.YtopgphbmlcophaaTagE
namespace Go.Proofs.Ytopgphbmlcophaa
open Go.RowKit
set_option linter.unusedSimpArgs false

theorem mid_eq (a s r : ByteArray) {i j : Nat} (hi : i = a.size) (hj : j = a.size + s.size) : (a ++ (s ++ r)).extract i j = s := by
  subst hi hj
  have h := @ByteArray.extract_append_size_add a (s ++ r) 0 s.size
  simp only [Nat.add_zero] at h
  rw [h]
  exact ByteArray.extract_append_eq_left rfl

/-! ### one tag, and what stands behind it -/
def Tg.Ok (t : Tg) : Prop := 1 ≤ t.k ∧ t.k ≤ 65535 ∧ t.s.size ≤ 1494
theorem Tg.bytes_k {t : Tg} (h : t.Ok) (r : ByteArray) : num (t.bytes ++ r) 0 2 = t.k := by
  unfold Tg.bytes
  have h1 := h.1
  have h2 := h.2.1
  rw [num_append_l _ _ _ _ (by simp only [ByteArray.size_append, be_size]; omega), num_append_l _ _ _ _ (by simp only [ByteArray.size_append, be_size]; omega), num_append_l _ _ _ _ (by simp only [be_size]; omega), num_be _ _ (by constructor <;> omega)]
theorem Tg.bytes_n {t : Tg} (h : t.Ok) (r : ByteArray) : num (t.bytes ++ r) 2 2 = t.s.size := by
  unfold Tg.bytes
  have h3 := h.2.2
  rw [num_append_l _ _ _ _ (by simp only [ByteArray.size_append, be_size]; omega), num_append_l _ _ _ _ (by simp only [ByteArray.size_append, be_size]; omega), num_append_r _ _ _ (by simp [be_size])]
  rw [show 2 - (be 2 t.k).size = 0 by simp [be_size], num_be _ _ (by constructor <;> omega)]
theorem Tg.bytes_s (t : Tg) (r : ByteArray) : (t.bytes ++ r).extract 4 (4 + t.s.size) = t.s := by
  have h : t.bytes ++ r = (be 2 t.k ++ be 2 t.s.size) ++ (t.s ++ r) := by simp [Tg.bytes, ByteArray.append_assoc]
  rw [h]
  exact mid_eq _ _ _ (by simp [ByteArray.size_append, be_size]) (by simp [ByteArray.size_append, be_size])
theorem Tg.bytes_r (t : Tg) (r : ByteArray) : (t.bytes ++ r).extract (4 + t.s.size) (t.bytes ++ r).size = r := by
  rw [ByteArray.extract_append_eq_right (by rw [Tg.bytes_size]) (by rw [ByteArray.size_append])]

theorem getFrom_tag {m : Nat} {t : Tg} {r : ByteArray} {out : List Tg} (h : t.Ok) (hm : (t.bytes ++ r).size ≤ m) :
    getFrom m (t.bytes ++ r) out = if 20 ≤ out.length then ([], 2) else getFrom (m - 1) r (out ++ [t]) := by
  have hsz : (t.bytes ++ r).size = 4 + t.s.size + r.size := by rw [ByteArray.size_append, Tg.bytes_size]
  have h1 := h.1
  rw [getFrom_step _ _ _ hm (by omega), if_neg (by omega), Tg.bytes_k h, Tg.bytes_n h, if_neg (by omega), if_neg (by omega)]
  rw [Int.toNat_natCast, Tg.bytes_r, Tg.bytes_s]

/-! ### tags behind one another -/
def encTgs (l : List Tg) : ByteArray := l.foldl (fun o t => o ++ t.bytes) ⟨#[]⟩
theorem foldl_bytes (l : List Tg) (o : ByteArray) : l.foldl (fun o t => o ++ t.bytes) o = o ++ encTgs l := by
  induction l generalizing o with
  | nil =>
    have : encTgs [] = ByteArray.empty := rfl
    rw [this, ByteArray.append_empty]; rfl
  | cons t l ih =>
    have h2 : encTgs (t :: l) = t.bytes ++ encTgs l := by
      show l.foldl (fun o t => o ++ t.bytes) ((⟨#[]⟩ : ByteArray) ++ t.bytes) = _
      rw [ih]
      congr 1
    rw [List.foldl_cons, ih, h2, ByteArray.append_assoc]
theorem encTgs_cons (t : Tg) (l : List Tg) : encTgs (t :: l) = t.bytes ++ encTgs l := by
  have : encTgs (t :: l) = l.foldl (fun o t => o ++ t.bytes) ((⟨#[]⟩ : ByteArray) ++ t.bytes) := rfl
  rw [this, foldl_bytes]
  have : (⟨#[]⟩ : ByteArray) ++ t.bytes = t.bytes := ByteArray.empty_append
  rw [this]
theorem encTgs_append (l m : List Tg) : encTgs (l ++ m) = encTgs l ++ encTgs m := by
  rw [encTgs, List.foldl_append, foldl_bytes]; rfl
def lenAll (l : List Tg) : Nat := (l.map fun t => 4 + t.s.size).sum
theorem encTgs_size (l : List Tg) : (encTgs l).size = lenAll l := by
  induction l with
  | nil => rfl
  | cons t l ih => rw [encTgs_cons, ByteArray.size_append, ih, Tg.bytes_size]; simp [lenAll]
theorem lenAll_cons (t : Tg) (l : List Tg) : lenAll (t :: l) = 4 + t.s.size + lenAll l := by simp [lenAll]

theorem putFrom_ok (l : List Tg) (o b : ByteArray) (h : putFrom l o = (b, 0)) : b = o ++ encTgs l ∧ ∀ t ∈ l, t.s.size ≤ 1494 := by
  induction l generalizing o with
  | nil =>
    simp [putFrom] at h
    have : encTgs [] = ByteArray.empty := rfl
    rw [this, ByteArray.append_empty]
    exact ⟨h.symm, by simp⟩
  | cons t l ih =>
    rw [putFrom] at h
    by_cases hc : 1494 < t.s.size ∨ 1494 < o.size + t.s.size + 4
    · rw [if_pos hc] at h
      simp at h
    · rw [if_neg hc] at h
      obtain ⟨h1, h2⟩ := ih _ h
      refine ⟨by rw [h1, encTgs_cons, ByteArray.append_assoc], fun x hx => ?_⟩
      rcases List.mem_cons.1 hx with rfl | hx
      · omega
      · exact h2 x hx
theorem putFrom_bad (l : List Tg) (o b : ByteArray) (e : Int) (h : putFrom l o = (b, e)) : e = 0 ∨ b = ⟨#[]⟩ := by
  induction l generalizing o with
  | nil => simp [putFrom] at h; exact .inl h.2.symm
  | cons t l ih =>
    rw [putFrom] at h
    by_cases hc : 1494 < t.s.size ∨ 1494 < o.size + t.s.size + 4
    · rw [if_pos hc] at h
      exact .inr (Prod.ext_iff.1 h).1.symm
    · rw [if_neg hc] at h
      exact ih _ h
theorem putTgs_bad (l : List Tg) (b : ByteArray) (e : Int) (h : putTgs l = (b, e)) : e = 0 ∨ b = ⟨#[]⟩ := by
  unfold putTgs at h
  split at h
  · exact .inr (Prod.ext_iff.1 h).1.symm
  · split at h
    · exact .inr (Prod.ext_iff.1 h).1.symm
    · exact putFrom_bad l _ b e h
theorem putTgs_ok (l : List Tg) (b : ByteArray) (h : putTgs l = (b, 0)) : b = encTgs l ∧ l.length ≤ 20 ∧ ∀ t ∈ l, t.Ok := by
  unfold putTgs at h
  split at h
  · simp at h
  · rename_i h20
    split at h
    · simp at h
    · rename_i hw
      obtain ⟨h1, h2⟩ := putFrom_ok l _ b h
      refine ⟨?_, by omega, fun t ht => ?_⟩
      · rw [h1]; exact ByteArray.empty_append
      · have hn : ¬ Tg.wrong t = true := fun h => hw (List.any_eq_true.2 ⟨t, ht, h⟩)
        simp [Tg.wrong] at hn
        exact ⟨hn.1, hn.2, h2 t ht⟩

/-- Tags are taken one by one. -/
theorem getFrom_tags (l : List Tg) (hl : ∀ t ∈ l, t.Ok) : ∀ (m : Nat) (r : ByteArray) (out : List Tg), (encTgs l ++ r).size ≤ m → out.length + l.length ≤ 20 →
    ∃ m', r.size ≤ m' ∧ getFrom m (encTgs l ++ r) out = getFrom m' r (out ++ l) := by
  induction l with
  | nil =>
    intro m r out hm _
    have : encTgs [] = ByteArray.empty := rfl
    rw [this, ByteArray.empty_append] at hm ⊢
    exact ⟨m, hm, by simp⟩
  | cons t l ih =>
    intro m r out hm hlen
    have ht := hl t (by simp)
    rw [List.length_cons] at hlen
    rw [encTgs_cons, ByteArray.append_assoc] at hm ⊢
    rw [getFrom_tag ht hm, if_neg (by omega)]
    have hsz : (t.bytes ++ (encTgs l ++ r)).size = 4 + t.s.size + (encTgs l ++ r).size := by rw [ByteArray.size_append, Tg.bytes_size]
    obtain ⟨m', h1, h2⟩ := ih (fun x hx => hl x (by simp [hx])) (m - 1) r (out ++ [t]) (by omega) (by simp; omega)
    exact ⟨m', h1, by rw [h2]; simp⟩
theorem getFrom_many (l : List Tg) (hl : ∀ t ∈ l, t.Ok) : ∀ (m : Nat) (r : ByteArray) (out : List Tg), (encTgs l ++ r).size ≤ m → out.length ≤ 20 → 20 < out.length + l.length →
    getFrom m (encTgs l ++ r) out = ([], 2) := by
  induction l with
  | nil => intro m r out _ h1 h2; simp at h2; omega
  | cons t l ih =>
    intro m r out hm h1 h2
    have ht := hl t (by simp)
    rw [List.length_cons] at h2
    rw [encTgs_cons, ByteArray.append_assoc] at hm ⊢
    rw [getFrom_tag ht hm]
    by_cases h3 : 20 ≤ out.length
    · rw [if_pos h3]
    · rw [if_neg h3]
      have hsz : (t.bytes ++ (encTgs l ++ r)).size = 4 + t.s.size + (encTgs l ++ r).size := by rw [ByteArray.size_append, Tg.bytes_size]
      exact ih (fun x hx => hl x (by simp [hx])) (m - 1) r (out ++ [t]) (by omega) (by simp; omega) (by simp; omega)
theorem getTgs_back (l : List Tg) (hl : ∀ t ∈ l, t.Ok) (h20 : l.length ≤ 20) : getTgs (encTgs l) = (l, 0) := by
  obtain ⟨m', _, h⟩ := getFrom_tags l hl (encTgs l).size ByteArray.empty [] (by rw [ByteArray.append_empty]; exact Nat.le_refl _) (by simpa using h20)
  rw [ByteArray.append_empty] at h
  rw [getTgs, h, getFrom_zero _ _ _ rfl]
  simp
theorem getTgs_end (l : List Tg) (hl : ∀ t ∈ l, t.Ok) (h20 : l.length ≤ 20) (more : ByteArray) : getTgs (encTgs l ++ ⟨#[0, 0]⟩ ++ more) = (l, 0) := by
  rw [ByteArray.append_assoc]
  obtain ⟨m', hm, h⟩ := getFrom_tags l hl _ (⟨#[0, 0]⟩ ++ more) [] (Nat.le_refl _) (by simpa using h20)
  rw [getTgs, h]
  have hz : ((⟨#[0, 0]⟩ : ByteArray) ++ more).size = 2 + more.size := by rw [ByteArray.size_append]; rfl
  rw [getFrom_step _ _ _ hm (by omega), if_neg (by omega), num_append_l _ _ _ _ (by decide), if_pos (by decide)]
  simp
theorem getTgs_many (l : List Tg) (hl : ∀ t ∈ l, t.Ok) (h20 : 20 < l.length) : getTgs (encTgs l) = ([], 2) := by
  have := getFrom_many l hl (encTgs l).size ByteArray.empty [] (by rw [ByteArray.append_empty]; exact Nat.le_refl _) (by simp) (by simpa using h20)
  rwa [ByteArray.append_empty] at this

/-- Cut within a tag. -/
theorem getFrom_cut {m : Nat} {t : Tg} {out : List Tg} {at_ : Nat} (h : t.Ok) (h0 : 0 < at_) (h1 : at_ < 4 + t.s.size) (hm : at_ ≤ m) : getFrom m (t.bytes.extract 0 at_) out = ([], 5) := by
  have hsz : (t.bytes.extract 0 at_).size = at_ := by rw [ByteArray.size_extract, Tg.bytes_size]; omega
  rw [getFrom_step _ _ _ (by omega) (by omega), hsz]
  by_cases h2 : at_ < 2
  · rw [if_pos h2]
  rw [if_neg h2]
  have key : ∀ i n, i + n ≤ at_ → num (t.bytes.extract 0 at_) i n = num t.bytes i n := by
    intro i n hin
    have e : t.bytes = t.bytes.extract 0 at_ ++ t.bytes.extract at_ t.bytes.size := by
      rw [← ByteArray.extract_eq_extract_append_extract at_ (by omega) (by rw [Tg.bytes_size]; omega), ByteArray.extract_zero_size]
    conv => rhs; rw [e]
    rw [num_append_l _ _ _ _ (by rw [hsz]; exact hin)]
  have k := Tg.bytes_k h ByteArray.empty
  have n := Tg.bytes_n h ByteArray.empty
  rw [ByteArray.append_empty] at k n
  have hk := h.1
  rw [key 0 2 (by omega), k, if_neg (by omega)]
  by_cases h4 : at_ < 4
  · rw [if_pos (.inl h4)]
  · rw [key 2 2 (by omega), n, if_pos (.inr (by omega))]

/-! ### a packet -/
def Dc.Ok (d : Dc) : Prop := 0 ≤ d.code ∧ d.code ≤ 255 ∧ 0 ≤ d.sess ∧ d.sess ≤ 65535 ∧ d.data.size ≤ 1494
theorem Dc.put_ok {d : Dc} {b : ByteArray} (h : d.put = (b, 0)) : b = d.bytes ∧ d.Ok := by
  unfold Dc.put at h
  split at h
  · simp at h
  · rename_i h1
    split at h
    · simp at h
    · exact ⟨(Prod.ext_iff.1 h).1.symm, by unfold Dc.Ok; omega⟩
theorem Dc.bytes_size (d : Dc) : d.bytes.size = 6 + d.data.size := by
  simp [Dc.bytes, ByteArray.size_append, be_size, strOfNums_size]
def Dc.head (d : Dc) : ByteArray := strOfNums [17, IntKind.u8.wrap d.code] ++ be 2 d.sess ++ be 2 d.data.size
theorem Dc.head_size (d : Dc) : d.head.size = 6 := by simp [Dc.head, ByteArray.size_append, be_size, strOfNums_size]
theorem Dc.head_0 (d : Dc) : byte d.head 0 = 17 := by
  unfold Dc.head
  rw [append_byte_l _ _ _ (by simp [ByteArray.size_append, be_size, strOfNums_size]), append_byte_l _ _ _ (by simp [strOfNums_size])]
  rfl
theorem Dc.head_1 {d : Dc} (h : d.Ok) : byte d.head 1 = d.code := by
  unfold Dc.head
  rw [append_byte_l _ _ _ (by simp [ByteArray.size_append, be_size, strOfNums_size]), append_byte_l _ _ _ (by simp [strOfNums_size]), IntWalk.u8_in _ ⟨h.1, h.2.1⟩]
  have h1 := h.1
  have h2 := h.2.1
  simp [byte, strOfNums]
  omega
theorem Dc.head_s {d : Dc} (h : d.Ok) : num d.head 2 2 = d.sess := by
  unfold Dc.head
  have h1 := h.2.2.1
  have h2 := h.2.2.2.1
  rw [num_append_l _ _ _ _ (by simp [ByteArray.size_append, be_size, strOfNums_size]), num_append_r _ _ _ (by simp [strOfNums_size])]
  rw [show 2 - (strOfNums [17, IntKind.u8.wrap d.code]).size = 0 by simp [strOfNums_size], num_be _ _ (by constructor <;> omega)]
theorem Dc.head_n {d : Dc} (h : d.Ok) : num d.head 4 2 = d.data.size := by
  unfold Dc.head
  have h1 := h.2.2.2.2
  rw [num_append_r _ _ _ (by simp [ByteArray.size_append, be_size, strOfNums_size])]
  rw [show 4 - (strOfNums [17, IntKind.u8.wrap d.code] ++ be 2 d.sess).size = 0 by simp [ByteArray.size_append, be_size, strOfNums_size], num_be _ _ (by constructor <;> omega)]
theorem Dc.get_back {d : Dc} (h : d.Ok) (more : ByteArray) : Dc.get (d.bytes ++ more) = (d, 0) := by
  have hs := Dc.head_size d
  have e : d.bytes ++ more = d.head ++ (d.data ++ more) := by simp [Dc.bytes, Dc.head, ByteArray.append_assoc]
  have hn := h.2.2.2.2
  have hsz : (d.head ++ (d.data ++ more)).size = 6 + d.data.size + more.size := by simp [ByteArray.size_append, hs]; omega
  rw [e, Dc.get, if_neg (by omega), append_byte_l _ _ _ (by omega), Dc.head_0, if_neg (by decide), num_append_l _ _ 4 _ (by omega), Dc.head_n h, if_neg (by omega), if_neg (by omega),
    append_byte_l _ _ _ (by omega), Dc.head_1 h, num_append_l _ _ 2 _ (by omega), Dc.head_s h, Int.toNat_natCast, mid_eq _ _ _ hs.symm (by rw [hs])]
theorem Dc.get_cut {d : Dc} (h : d.Ok) (k : Nat) (hk : k < d.bytes.size) : (Dc.get (d.bytes.extract 0 k)).2 = 5 := by
  have hs := Dc.head_size d
  have hb := Dc.bytes_size d
  have hsz : (d.bytes.extract 0 k).size = k := by rw [ByteArray.size_extract]; omega
  unfold Dc.get
  rw [hsz]
  by_cases h6 : k < 6
  · rw [if_pos h6]
  rw [if_neg h6]
  have e1 : d.bytes = d.head ++ d.data := rfl
  have e2 : d.bytes.extract 0 k = d.head ++ d.data.extract 0 (k - 6) := by
    rw [e1, ByteArray.extract_append, hs]
    congr 1
    apply ByteArray.ext
    rw [ByteArray.data_extract]
    exact Array.extract_eq_self_of_le (by show d.head.size ≤ k; omega)
  rw [e2, append_byte_l _ _ _ (by omega), Dc.head_0, if_neg (by decide), num_append_l _ _ 4 _ (by omega), Dc.head_n h]
  have hn := h.2.2.2.2
  rw [if_neg (by omega), if_pos (by omega)]
end Go.Proofs.Ytopgphbmlcophaa
