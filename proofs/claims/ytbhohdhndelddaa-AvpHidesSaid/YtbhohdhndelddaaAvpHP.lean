/- Plain: what is hidden is told with the same secret alone. -/
import Derived.Test.YtbhohdhndelddaaAvpBP
namespace Go.Proofs.Ytbhohdhndelddaa
open Go.RowKit
set_option linter.unusedSimpArgs false
set_option linter.unusedVariables false

def hdV (vector : ByteArray) : Av := ⟨true, false, 0, 36, vector⟩
def hdH (kind : Int) (value : ByteArray) : Av := ⟨true, true, 0, kind, value⟩
theorem vec_hdV (vector : ByteArray) : vec [hdV vector] = (vector, true) := rfl
theorem vec_nil : vec [] = (⟨#[]⟩, false) := rfl
section
variable {kind : Int} {value vector secret : ByteArray}
theorem hd_c1 (pre : List Av) (h : vector.size ≤ 200) : contentA (hdV vector) pre secret = (vector, 0) := by
  unfold contentA hdV
  rw [if_neg (by simp), if_neg (by dsimp only; omega), if_pos rfl]
theorem hd_c2 (hv : value.size ≤ 200) (hk : 0 ≤ kind ∧ kind ≤ 65535) (hs : secret.size ≠ 0) : contentA (hdH kind value) [hdV vector] secret = (maskB false kind secret vector (be 2 value.size ++ value), 0) := by
  unfold contentA hdH
  rw [if_neg (by simp; omega), if_neg (by dsimp only; omega), if_neg (by simp), if_neg hs, vec_hdV, if_neg (by simp)]
theorem hd_c3 (pre : List Av) (hv : value.size ≤ 200) (hk : 0 ≤ kind ∧ kind ≤ 65535) : contentA (hdH kind value) pre ⟨#[]⟩ = (⟨#[]⟩, 30) := by
  unfold contentA hdH
  rw [if_neg (by simp; omega), if_neg (by dsimp only; omega), if_neg (by simp), if_pos (show (⟨#[]⟩ : ByteArray).size = 0 from rfl)]
theorem hd_c4 (hv : value.size ≤ 200) (hk : 0 ≤ kind ∧ kind ≤ 65535) (hs : secret.size ≠ 0) : contentA (hdH kind value) [] secret = (⟨#[]⟩, 40) := by
  unfold contentA hdH
  rw [if_neg (by simp; omega), if_neg (by dsimp only; omega), if_neg (by simp), if_neg hs, vec_nil, if_pos rfl]

/-- The two values laid. -/
def hdB (kind : Int) (value vector secret : ByteArray) : ByteArray := encA (hdV vector) vector ++ encA (hdH kind value) (maskB false kind secret vector (be 2 value.size ++ value))
theorem hdB_size (kind : Int) (value vector secret : ByteArray) : (hdB kind value vector secret).size = 14 + vector.size + value.size := by
  rw [hdB, ByteArray.size_append, encA_size, encA_size, maskB_size, ByteArray.size_append, be_size]
  omega
theorem hd_put (hv : value.size ≤ 200) (hw : vector.size ≤ 200) (hk : 0 ≤ kind ∧ kind ≤ 65535) (hs : secret.size ≠ 0) : putA [hdV vector, hdH kind value] secret = (hdB kind value vector secret, 0) := by
  have hz := hdB_size kind value vector secret
  unfold putA
  rw [if_neg (by simp), putFromA, hd_c1 [] hw]
  dsimp only
  rw [if_neg (by simp), List.nil_append, putFromA, hd_c2 hv hk hs]
  dsimp only
  rw [if_neg (by simp), putFromA]
  have e : (⟨#[]⟩ : ByteArray) ++ encA (hdV vector) vector ++ encA (hdH kind value) (maskB false kind secret vector (be 2 value.size ++ value)) = hdB kind value vector secret := by
    rw [show (⟨#[]⟩ : ByteArray) = ByteArray.empty from rfl, ByteArray.empty_append]
    rfl
  rw [e, if_neg (by omega)]
theorem hd_put0 (hv : value.size ≤ 200) (hw : vector.size ≤ 200) (hk : 0 ≤ kind ∧ kind ≤ 65535) : putA [hdV vector, hdH kind value] ⟨#[]⟩ = (⟨#[]⟩, 30) := by
  unfold putA
  rw [if_neg (by simp), putFromA, hd_c1 [] hw]
  dsimp only
  rw [if_neg (by simp), List.nil_append, putFromA, hd_c3 _ hv hk]
  dsimp only
  rw [if_pos (by decide)]
theorem hd_putR (hv : value.size ≤ 200) (hk : 0 ≤ kind ∧ kind ≤ 65535) (hs : secret.size ≠ 0) : putA [hdH kind value, hdV vector] secret = (⟨#[]⟩, 40) := by
  unfold putA
  rw [if_neg (by simp), putFromA, hd_c4 hv hk hs]
  dsimp only
  rw [if_pos (by decide)]
/-- The first value read off. -/
theorem hd_get1 (other : ByteArray) (hw : vector.size ≤ 200) : getA (hdB kind value vector secret) other = getFromA other (hdB kind value vector secret).size (encA (hdH kind value) (maskB false kind secret vector (be 2 value.size ++ value))) [hdV vector] := by
  have hz := hdB_size kind value vector secret
  have ho := @oneA_enc (hdV vector) [] other (encA (hdH kind value) (maskB false kind secret vector (be 2 value.size ++ value))) (by rw [hd_c1 [] hw]) (by simp)
  rw [hd_c1 [] hw] at ho
  dsimp only at ho
  obtain ⟨n, hn⟩ : ∃ n, (hdB kind value vector secret).size = n + 1 := ⟨(hdB kind value vector secret).size - 1, by omega⟩
  rw [getA, hn, getFromA, if_neg (by omega)]
  rw [show oneA (hdB kind value vector secret) other [] = (hdV vector, vector.size + 6, 0) from ho]
  dsimp only
  rw [if_neg (by simp)]
  have e : (hdB kind value vector secret).extract (vector.size + 6) (hdB kind value vector secret).size = encA (hdH kind value) (maskB false kind secret vector (be 2 value.size ++ value)) := by
    rw [hdB]
    exact ByteArray.extract_append_eq_right (by rw [encA_size]; omega) (by rw [ByteArray.size_append])
  rw [← hn, e, List.nil_append]
  have z2 : (encA (hdH kind value) (maskB false kind secret vector (be 2 value.size ++ value))).size = 8 + value.size := by rw [encA_size, maskB_size, ByteArray.size_append, be_size]; omega
  exact getFromA_more _ _ _ _ _ (by omega) (by omega)
/-- What the hidden value's bytes are with another secret. -/
def hdX (kind : Int) (value vector secret other : ByteArray) : ByteArray := maskB true kind other vector (maskB false kind secret vector (be 2 value.size ++ value))
theorem hdX_size (other : ByteArray) : (hdX kind value vector secret other).size = 2 + value.size := by rw [hdX, maskB_size, maskB_size, ByteArray.size_append, be_size]
theorem hd_one (other : ByteArray) (hv : value.size ≤ 200) (hk : 0 ≤ kind ∧ kind ≤ 65535) :
    oneA (encA (hdH kind value) (maskB false kind secret vector (be 2 value.size ++ value))) other [hdV vector] =
      if (shownA kind (maskB false kind secret vector (be 2 value.size ++ value)) other [hdV vector]).2 ≠ 0 then (zeroAv, 0, (shownA kind (maskB false kind secret vector (be 2 value.size ++ value)) other [hdV vector]).2)
      else (hdH kind (shownA kind (maskB false kind secret vector (be 2 value.size ++ value)) other [hdV vector]).1, 8 + value.size, 0) := by
  have zc : (maskB false kind secret vector (be 2 value.size ++ value)).size = 2 + value.size := by rw [maskB_size, ByteArray.size_append, be_size]
  generalize maskB false kind secret vector (be 2 value.size ++ value) = c at *
  obtain ⟨g1, g2, g3, g4⟩ := encA_head (hdH kind value) c ⟨#[]⟩ (by simp [hdH]) hk (by omega)
  have ea : encA (hdH kind value) c ++ (⟨#[]⟩ : ByteArray) = encA (hdH kind value) c := ByteArray.append_empty
  rw [ea] at g1 g2 g3 g4
  have z := encA_size (hdH kind value) c
  unfold oneA
  rw [if_neg (by omega), g1, g2, g3]
  have hm : (flagsA (hdH kind value) + c.size + 6).toNat = 49152 + c.size + 6 := by
    have : flagsA (hdH kind value) = 49152 := rfl
    rw [this]
    omega
  rw [hm]
  dsimp only
  have e : (49152 + c.size + 6) % 1024 = c.size + 6 := by omega
  rw [e, if_neg (by omega), if_neg (by omega), if_neg (by rw [if_pos (by omega)]; simp; omega), if_pos (by omega), g4]
  have h3 : decide (32768 ≤ 49152 + c.size + 6) = true := by simp; omega
  rw [h3]
  have e2 : c.size + 6 = 8 + value.size := by omega
  rw [e2]
  rfl
theorem hd_get (other : ByteArray) (hv : value.size ≤ 200) (hw : vector.size ≤ 200) (hk : 0 ≤ kind ∧ kind ≤ 65535) :
    getA (hdB kind value vector secret) other = if (shownA kind (maskB false kind secret vector (be 2 value.size ++ value)) other [hdV vector]).2 ≠ 0 then ([], (shownA kind (maskB false kind secret vector (be 2 value.size ++ value)) other [hdV vector]).2)
      else ([hdV vector, hdH kind (shownA kind (maskB false kind secret vector (be 2 value.size ++ value)) other [hdV vector]).1], 0) := by
  have hz := hdB_size kind value vector secret
  have z2 : (encA (hdH kind value) (maskB false kind secret vector (be 2 value.size ++ value))).size = 8 + value.size := by rw [encA_size, maskB_size, ByteArray.size_append, be_size]; omega
  rw [hd_get1 other hw]
  obtain ⟨n, hn⟩ : ∃ n, (hdB kind value vector secret).size = n + 1 := ⟨(hdB kind value vector secret).size - 1, by omega⟩
  rw [hn, getFromA, if_neg (by omega), hd_one other hv hk]
  generalize shownA kind (maskB false kind secret vector (be 2 value.size ++ value)) other [hdV vector] = r
  by_cases t : r.2 ≠ 0
  · rw [if_pos t, if_pos t]
    dsimp only
    rw [if_pos t]
  · rw [if_neg t, if_neg t]
    dsimp only
    rw [if_neg (by simp), z2]
    have e : (encA (hdH kind value) (maskB false kind secret vector (be 2 value.size ++ value))).extract (8 + value.size) (8 + value.size) = ⟨#[]⟩ := by
      apply ByteArray.ext
      refine Array.eq_empty_of_size_eq_zero ?_
      show (ByteArray.extract _ _ _).size = 0
      rw [ByteArray.size_extract]
      omega
    rw [e]
    cases n with
    | zero => rfl
    | succ n => rw [getFromA, if_pos (show (⟨#[]⟩ : ByteArray).size = 0 from rfl)]; rfl
theorem hd_shown (other : ByteArray) (ho : other.size ≠ 0) : shownA kind (maskB false kind secret vector (be 2 value.size ++ value)) other [hdV vector] =
    if num (hdX kind value vector secret other) 0 2 ≠ value.size then (⟨#[]⟩, 4) else ((hdX kind value vector secret other).extract 2 (2 + value.size), 0) := by
  have hz := @hdX_size kind value vector secret other
  unfold shownA
  rw [if_neg ho, vec_hdV, if_neg (by simp)]
  rw [show maskB true kind other vector (maskB false kind secret vector (be 2 value.size ++ value)) = hdX kind value vector secret other from rfl, hz]
  have h2 : ¬ (2 + value.size < 2) := by omega
  have e : (((2 + value.size : Nat) : Int)) - 2 = value.size := by omega
  by_cases t : num (hdX kind value vector secret other) 0 2 = value.size
  · rw [if_neg (by rw [e]; rintro (h | h); exact h2 h; exact h t), if_neg (by simpa using t)]
  · rw [if_pos (by rw [e]; exact .inr t), if_pos t]
theorem hd_shown0 : shownA kind (maskB false kind secret vector (be 2 value.size ++ value)) ⟨#[]⟩ [hdV vector] = (⟨#[]⟩, 30) := by
  unfold shownA
  rw [if_pos (show (⟨#[]⟩ : ByteArray).size = 0 from rfl)]
/-- Two bytes read as a number and laid again. -/
theorem be_num2 (x : ByteArray) (h : 2 ≤ x.size) : be 2 (num x 0 2) ++ x.extract 2 x.size = x := by
  have hb0 := byte_bd x 0
  have hb1 := byte_bd x 1
  have e : be 2 (num x 0 2) = x.extract 0 2 := by
    apply ByteArray.ext
    apply Array.ext_getElem?
    intro i
    have z1 : (be 2 (num x 0 2)).data.size = 2 := be_size 2 _
    have z2 : (x.extract 0 2).data.size = 2 := by show (x.extract 0 2).size = 2; rw [ByteArray.size_extract]; omega
    by_cases hi : i < 2
    · have k1 := be_byte 2 (num x 0 2) i hi
      have k2 : byte (x.extract 0 2) i = byte x i := by
        unfold byte
        rw [ByteArray.data_extract, Array.getElem?_extract, if_pos (by have : x.data.size = x.size := rfl; omega), Nat.zero_add]
      have k3 : byteAt (num x 0 2) 2 i = byte x i := by
        have hx : num x 0 2 = byte x 0 * 256 + byte x 1 := by
          rw [num, num, num]
          simp
        rw [hx, byteAt]
        have : i = 0 ∨ i = 1 := by omega
        rcases this with rfl | rfl
        · show (byte x 0 * 256 + byte x 1) / 2 ^ 8 % 256 = _
          omega
        · show (byte x 0 * 256 + byte x 1) / 2 ^ 0 % 256 = _
          omega
      rw [k3, ← k2] at k1
      unfold byte at k1
      rw [Array.getElem?_eq_getElem (by omega), Array.getElem?_eq_getElem (by omega)] at k1 ⊢
      simp only [Option.getD_some] at k1
      congr 1
      exact UInt8.toNat_inj.1 (by omega)
    · rw [Array.getElem?_eq_none (by omega), Array.getElem?_eq_none (by omega)]
  rw [e, ByteArray.extract_append_extract, Nat.min_eq_left (by omega), Nat.max_eq_right (by omega), ByteArray.extract_zero_size]
theorem encA_hdH (kind : Int) (x y c : ByteArray) : encA (hdH kind x) c = encA (hdH kind y) c := rfl
/-- What was told is put as it was. -/
theorem hd_again (other : ByteArray) (ho : other.size ≠ 0) (hv : value.size ≤ 200) (hw : vector.size ≤ 200) (hk : 0 ≤ kind ∧ kind ≤ 65535) (h : num (hdX kind value vector secret other) 0 2 = value.size) :
    putA [hdV vector, hdH kind ((hdX kind value vector secret other).extract 2 (2 + value.size))] other = (hdB kind value vector secret, 0) := by
  have hz := @hdX_size kind value vector secret other
  have zx : ((hdX kind value vector secret other).extract 2 (2 + value.size)).size = value.size := by rw [ByteArray.size_extract]; omega
  have e1 := hd_put (kind := kind) (value := (hdX kind value vector secret other).extract 2 (2 + value.size)) (vector := vector) (secret := other) (by omega) hw hk ho
  have e2 : be 2 (value.size : Int) ++ (hdX kind value vector secret other).extract 2 (2 + value.size) = hdX kind value vector secret other := by
    have := be_num2 (hdX kind value vector secret other) (by omega)
    rw [h, hz] at this
    exact this
  have e3 := unmaskB_maskB true kind other vector (maskB false kind secret vector (be 2 value.size ++ value))
  rw [Bool.not_true] at e3
  have e4 : maskB false kind other vector (hdX kind value vector secret other) = maskB false kind secret vector (be 2 value.size ++ value) := e3
  rw [e1, hdB, zx, e2, e4, hdB]
  generalize maskB false kind secret vector (be 2 value.size ++ value) = c
  rw [encA_hdH kind ((hdX kind value vector secret other).extract 2 (2 + value.size)) value c]
theorem hd_same (hv : value.size ≤ 200) : hdX kind value vector secret secret = be 2 value.size ++ value := by
  have e3 := unmaskB_maskB false kind secret vector (be 2 value.size ++ value)
  rw [Bool.not_false] at e3
  exact e3
end
end Go.Proofs.Ytbhohdhndelddaa
