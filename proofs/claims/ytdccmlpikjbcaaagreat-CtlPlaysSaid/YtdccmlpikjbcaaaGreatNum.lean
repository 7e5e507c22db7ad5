/- Numbers: masks of int. -/
import Derived.WalkKit
namespace Go.Proofs.YtdccmlpikjbcaaaGreat
open Go.RowKit
theorem i64_mask (n : Int) (m : Nat) (hm : m < 63) : bits .and .i64 n (2 ^ m - 1 : Nat) = n % (2 ^ m : Nat) := by
  have hp : (2 : Nat) ^ m ≤ 2 ^ 62 := Nat.pow_le_pow_right (by omega) (by omega)
  have hp0 : 0 < (2 : Nat) ^ m := Nat.pow_pos (by omega)
  have h1 : (BitVec.ofInt 64 ((2 ^ m - 1 : Nat) : Int)).toNat = 2 ^ m - 1 := by
    rw [BitVec.toNat_ofInt]
    have : (((2 ^ m - 1 : Nat) : Int) % ((2 ^ 64 : Nat) : Int)).toNat = (2 ^ m - 1) % 2 ^ 64 := by
      rw [← Int.natCast_emod, Int.toNat_natCast]
    rw [this, Nat.mod_eq_of_lt]
    have : (2 : Nat) ^ 62 < 2 ^ 64 := by decide
    omega
  have h2 : (BitVec.ofInt 64 n).toNat = (n % (2 ^ 64 : Nat)).toNat := BitVec.toNat_ofInt ..
  have h3 : (BitVec.ofInt 64 n &&& BitVec.ofInt 64 ((2 ^ m - 1 : Nat) : Int)).toNat = (n % (2 ^ 64 : Nat)).toNat % 2 ^ m := by
    rw [BitVec.toNat_and, h1, h2, Nat.and_two_pow_sub_one_eq_mod]
  show IntKind.i64.wrap ((BitVec.ofInt 64 n &&& BitVec.ofInt 64 ((2 ^ m - 1 : Nat) : Int)).toNat : Nat) = _
  rw [h3]
  have h4 : ((n % ((2 ^ 64 : Nat) : Int)).toNat : Int) = n % ((2 ^ 64 : Nat) : Int) := Int.toNat_of_nonneg (Int.emod_nonneg _ (by decide))
  have h5 : (((n % ((2 ^ 64 : Nat) : Int)).toNat % 2 ^ m : Nat) : Int) = n % ((2 ^ m : Nat) : Int) := by
    rw [Int.natCast_emod, h4]
    exact Int.emod_emod_of_dvd n (by exact_mod_cast Nat.pow_dvd_pow 2 (by omega))
  rw [h5]
  have h6 : 0 ≤ n % ((2 ^ m : Nat) : Int) := Int.emod_nonneg _ (by omega)
  have h7 : n % ((2 ^ m : Nat) : Int) < ((2 ^ m : Nat) : Int) := Int.emod_lt_of_pos _ (by omega)
  have h8 : (2 : Nat) ^ 62 = 4611686018427387904 := by decide
  exact IntWalk.i64_in _ (by omega)
theorem i64_and65535 (n : Int) : bits .and .i64 n 65535 = n % 65536 := i64_mask n 16 (by omega)
end Go.Proofs.YtdccmlpikjbcaaaGreat
