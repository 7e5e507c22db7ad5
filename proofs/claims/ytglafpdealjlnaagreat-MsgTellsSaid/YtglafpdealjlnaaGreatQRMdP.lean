/- Plain: words of 32 bits held in ints, as the document's own MD5 has them. No program in sight. -/
import Derived.Test.YtglafpdealjlnaaGreatQDigP
namespace Go.Proofs.YtglafpdealjlnaaGreat
open Go.RowKit
set_option linter.unusedSimpArgs false
set_option linter.unusedVariables false

theorem ofInt_nat (m : Nat) (hm : m < 4611686018427387904) : (BitVec.ofInt 64 (m : Int)).toNat = m := by
  rw [BitVec.toNat_ofInt]
  have : ((m : Int) % ((2 ^ 64 : Nat) : Int)).toNat = m % 2 ^ 64 := by rw [← Int.natCast_emod, Int.toNat_natCast]
  rw [this, Nat.mod_eq_of_lt]
  have : (4611686018427387904 : Nat) < 2 ^ 64 := by decide
  omega
theorem bits_and_i (x y : U) : bits .and .i64 (x.toNat : Int) (y.toNat : Int) = ((x &&& y).toNat : Int) := by
  have hx := x.isLt
  have hy := y.isLt
  show IntKind.i64.wrap ((BitVec.ofInt 64 (x.toNat : Int) &&& BitVec.ofInt 64 (y.toNat : Int)).toNat : Nat) = _
  rw [BitVec.toNat_and, ofInt_nat _ (by omega), ofInt_nat _ (by omega), ← BitVec.toNat_and]
  have := (x &&& y).isLt
  exact IntWalk.i64_in _ (by omega)
theorem bits_or_i (x y : U) : bits .or .i64 (x.toNat : Int) (y.toNat : Int) = ((x ||| y).toNat : Int) := by
  have hx := x.isLt
  have hy := y.isLt
  show IntKind.i64.wrap ((BitVec.ofInt 64 (x.toNat : Int) ||| BitVec.ofInt 64 (y.toNat : Int)).toNat : Nat) = _
  rw [BitVec.toNat_or, ofInt_nat _ (by omega), ofInt_nat _ (by omega), ← BitVec.toNat_or]
  have := (x ||| y).isLt
  exact IntWalk.i64_in _ (by omega)
theorem bits_xor_i (x y : U) : bits .xor .i64 (x.toNat : Int) (y.toNat : Int) = ((x ^^^ y).toNat : Int) := by
  have hx := x.isLt
  have hy := y.isLt
  show IntKind.i64.wrap ((BitVec.ofInt 64 (x.toNat : Int) ^^^ BitVec.ofInt 64 (y.toNat : Int)).toNat : Nat) = _
  rw [BitVec.toNat_xor, ofInt_nat _ (by omega), ofInt_nat _ (by omega), ← BitVec.toNat_xor]
  have := (x ^^^ y).isLt
  exact IntWalk.i64_in _ (by omega)
theorem not_i (x : U) : (4294967295 : Int) - x.toNat = ((~~~x).toNat : Int) := by
  have hx := x.isLt
  rw [BitVec.toNat_not]
  omega
theorem add_i (x y : U) : ((x.toNat : Int) + y.toNat) % 4294967296 = ((x + y).toNat : Int) := by
  rw [BitVec.toNat_add]
  omega
theorem add4_i (f a t w : U) : ((f.toNat : Int) + a.toNat + t.toNat + w.toNat) % 4294967296 = ((a + f + t + w).toNat : Int) := by
  rw [BitVec.toNat_add, BitVec.toNat_add, BitVec.toNat_add]
  omega

/-! ### turning -/
theorem rotU_bit (x : U) (n i : Nat) (hn : n < 32) (hi : i < 32) : (rotU x n).getLsbD i = if i < n then x.getLsbD (32 - n + i) else x.getLsbD (i - n) := by
  unfold rotU
  rw [BitVec.getLsbD_or, BitVec.getLsbD_shiftLeft, BitVec.getLsbD_ushiftRight]
  by_cases h : i < n
  · simp [h, hi]
  · rw [if_neg h, BitVec.getLsbD_of_ge x (32 - n + i) (by omega)]
    simp [h, hi]
theorem rotU_zero (x : U) : rotU x 0 = x := by
  apply BitVec.eq_of_getLsbD_eq
  intro i hi
  rw [rotU_bit x 0 i (by omega) hi, if_neg (by omega)]
  rfl
theorem rotU_succ (x : U) (k : Nat) (hk : k + 1 < 32) : rotU (rotU x k) 1 = rotU x (k + 1) := by
  apply BitVec.eq_of_getLsbD_eq
  intro i hi
  rw [rotU_bit _ 1 i (by omega) hi, rotU_bit x (k + 1) i hk hi]
  by_cases h0 : i < 1
  · obtain rfl : i = 0 := by omega
    rw [if_pos h0, if_pos (by omega)]
    by_cases hk0 : k = 0
    · subst hk0; rw [rotU_zero]
    · rw [rotU_bit x k _ (by omega) (by omega), if_neg (by omega)]
      congr 1; omega
  · rw [if_neg h0, rotU_bit x k _ (by omega) (by omega)]
    by_cases h1 : i - 1 < k
    · rw [if_pos h1, if_pos (by omega)]; congr 1; omega
    · rw [if_neg h1, if_neg (by omega)]; congr 1; omega
theorem rotU_one (x : U) : (x.toNat : Int) * 2 % 4294967296 + (x.toNat : Int) / 2147483648 = ((rotU x 1).toNat : Int) := by
  have hx := x.isLt
  unfold rotU
  rw [BitVec.toNat_or, BitVec.toNat_shiftLeft, BitVec.toNat_ushiftRight, Nat.shiftLeft_eq, Nat.shiftRight_eq_div_pow]
  have h1 : x.toNat * 2 ^ 1 % 2 ^ 32 = (x.toNat % 2 ^ 31) <<< 1 := by rw [Nat.shiftLeft_eq]; omega
  have h2 : x.toNat / 2 ^ (32 - 1) < 2 ^ 1 := by omega
  rw [h1, ← Nat.shiftLeft_add_eq_or_of_lt h2, Nat.shiftLeft_eq]
  omega

/-! ### the words of a block -/
theorem words_none (b : ByteArray) (o j : Nat) : ∀ n, n ≤ 4 * j → wordsU b o n j = 0
  | 0, _ => rfl
  | n + 1, h => by
    show (if j = n / 4 then _ else wordsU b o n j) = 0
    rw [if_neg (by omega)]
    exact words_none b o j n (by omega)
theorem words_more (b : ByteArray) (o j : Nat) : ∀ n, 4 * j + 4 ≤ n → wordsU b o n j = wordsU b o (4 * j + 4) j
  | 0, h => by omega
  | n + 1, h => by
    by_cases he : 4 * j + 4 = n + 1
    · rw [he]
    · show (if j = n / 4 then _ else wordsU b o n j) = _
      rw [if_neg (by omega)]
      exact words_more b o j n (by omega)
theorem or_step (x : U) (v s : Nat) (hx : x.toNat < 2 ^ s) (hv : v < 256) (hs : s ≤ 24) : (x ||| BitVec.ofNat 32 v <<< s).toNat = x.toNat + v * 2 ^ s := by
  have h2 : (2 : Nat) ^ s ≤ 2 ^ 24 := Nat.pow_le_pow_right (by omega) hs
  rw [BitVec.toNat_or, BitVec.toNat_shiftLeft, BitVec.toNat_ofNat, Nat.mod_eq_of_lt (by omega : v < 2 ^ 32), Nat.shiftLeft_eq]
  have h3 : v * 2 ^ s < 2 ^ 32 := by
    have : v * 2 ^ s ≤ 255 * 2 ^ 24 := Nat.mul_le_mul (by omega) h2
    omega
  rw [Nat.mod_eq_of_lt h3, Nat.or_comm, ← Nat.shiftLeft_eq, ← Nat.shiftLeft_add_eq_or_of_lt hx, Nat.shiftLeft_eq]
  omega
theorem words_at (b : ByteArray) (o j : Nat) (hj : j < 16) : ((wordsU b o 64 j).toNat : Int) = byte b (o + 4 * j) + byte b (o + 4 * j + 1) * 256 + byte b (o + 4 * j + 2) * 65536 + byte b (o + 4 * j + 3) * 16777216 := by
  have hb : ∀ i : Nat, (b.data[i]?.getD (0 : UInt8)).toNat < 256 := fun i => (b.data[i]?.getD (0 : UInt8)).toNat_lt
  rw [words_more b o j 64 (by omega)]
  have e : ∀ n, 4 * j ≤ n → n < 4 * j + 4 → wordsU b o (n + 1) j = wordsU b o n j ||| BitVec.ofNat 32 (b.data[o + n]?.getD (0 : UInt8)).toNat <<< (8 * (n % 4)) := by
    intro n h1 h2
    show (if j = n / 4 then _ else wordsU b o n j) = _
    rw [if_pos (by omega)]
  rw [show 4 * j + 4 = 4 * j + 3 + 1 from rfl, e _ (by omega) (by omega), show 4 * j + 3 = 4 * j + 2 + 1 from rfl, e _ (by omega) (by omega), show 4 * j + 2 = 4 * j + 1 + 1 from rfl, e _ (by omega) (by omega), e (4 * j) (by omega) (by omega), words_none b o j (4 * j) (by omega)]
  rw [show (4 * j) % 4 = 0 by omega, show (4 * j + 1) % 4 = 1 by omega, show (4 * j + 1 + 1) % 4 = 2 by omega, show (4 * j + 1 + 1 + 1) % 4 = 3 by omega]
  have h0 := or_step 0 _ (8 * 0) (by decide) (hb (o + 4 * j)) (by omega)
  have h1 := or_step _ _ (8 * 1) (by rw [h0]; have := hb (o + 4 * j); simp; omega) (hb (o + (4 * j + 1))) (by omega)
  have h2 := or_step _ _ (8 * 2) (by rw [h1, h0]; have := hb (o + 4 * j); have := hb (o + (4 * j + 1)); simp; omega) (hb (o + (4 * j + 1 + 1))) (by omega)
  have h3 := or_step _ _ (8 * 3) (by rw [h2, h1, h0]; have := hb (o + 4 * j); have := hb (o + (4 * j + 1)); have := hb (o + (4 * j + 1 + 1)); simp; omega) (hb (o + (4 * j + 1 + 1 + 1))) (by omega)
  rw [h3, h2, h1, h0]
  unfold byte
  simp only [Nat.add_assoc]
  simp
  omega
end Go.Proofs.YtglafpdealjlnaaGreat
