/- Plain: numbers laid into bytes and read again; strings put behind one another and cut. No program in sight. -/
import Derived.WalkKit
import Derived.Laws.BytesArg
namespace Go.Proofs.YtdccmlpikjbcaaaGreat
open Go.RowKit

/-- Byte j of the number v laid into n bytes. -/
def byteAt (v : Int) (n j : Nat) : Int := v / 2 ^ (8 * (n - 1 - j)) % 256
/-- The number v in n bytes. -/
def be (n : Nat) (v : Int) : ByteArray := strOfNums ((List.range n).map (byteAt v n))
/-- Byte i of a string, as a number. -/
def byte (s : ByteArray) (i : Nat) : Int := ((s.data[i]?).getD 0).toNat
/-- The number in n bytes at a place. -/
def num (s : ByteArray) (i : Nat) : Nat → Int
  | 0 => 0
  | n + 1 => num s i n * 256 + byte s (i + n)

theorem be_size (n : Nat) (v : Int) : (be n v).size = n := by simp [be, strOfNums_size]
theorem byte_bd (s : ByteArray) (i : Nat) : 0 ≤ byte s i ∧ byte s i < 256 := by
  unfold byte
  have := ((s.data[i]?).getD 0).toNat_lt
  omega
theorem num_bd (s : ByteArray) (i : Nat) : ∀ n, 0 ≤ num s i n ∧ num s i n < 256 ^ n
  | 0 => by simp [num]
  | n + 1 => by
    have h := num_bd s i n
    have hb := byte_bd s (i + n)
    rw [num, Int.pow_succ]
    omega
theorem byteAt_bd (v : Int) (n j : Nat) : 0 ≤ byteAt v n j ∧ byteAt v n j < 256 := by
  unfold byteAt
  omega
theorem be_byte (n : Nat) (v : Int) (j : Nat) (hj : j < n) : byte (be n v) j = byteAt v n j := by
  have hb := byteAt_bd v n j
  simp only [byte, be, strOfNums]
  simp [hj]
  omega
theorem append_byte_l (s t : ByteArray) (i : Nat) (hi : i < s.size) : byte (s ++ t) i = byte s i := by
  simp only [byte, ByteArray.data_append]
  rw [Array.getElem?_append_left (show _ from hi)]
theorem append_byte_r (s t : ByteArray) (i : Nat) (hi : s.size ≤ i) : byte (s ++ t) i = byte t (i - s.size) := by
  simp only [byte, ByteArray.data_append]
  rw [Array.getElem?_append_right (show _ from hi)]
  rfl
theorem num_append_l (s t : ByteArray) (i : Nat) : ∀ n, i + n ≤ s.size → num (s ++ t) i n = num s i n
  | 0, _ => rfl
  | n + 1, h => by rw [num, num, num_append_l s t i n (by omega), append_byte_l s t _ (by omega)]
theorem num_append_r (s t : ByteArray) (i : Nat) (hi : s.size ≤ i) : ∀ n, num (s ++ t) i n = num t (i - s.size) n
  | 0 => rfl
  | n + 1 => by rw [num, num, num_append_r s t i hi n, append_byte_r s t _ (by omega), show i + n - s.size = i - s.size + n by omega]
theorem emod_two (x m : Int) (hm : 0 < m) : x % (256 * m) = x / 256 % m * 256 + x % 256 := by
  have h1 := Int.mul_ediv_add_emod (x / 256) m
  have h2 := Int.emod_nonneg (x / 256) (show m ≠ 0 by omega)
  have h3 := Int.emod_lt_of_pos (x / 256) hm
  have e : x = (x / 256 % m * 256 + x % 256) + 256 * m * (x / 256 / m) := by
    rw [Int.mul_assoc]
    omega
  have e2 := congrArg (· % (256 * m)) e
  simp only [Int.add_mul_emod_self_left] at e2
  rw [e2]
  exact Int.emod_eq_of_lt (by omega) (by omega)
theorem num_be_aux (v : Int) (n : Nat) : ∀ k, k ≤ n → num (be n v) 0 k = v / 2 ^ (8 * (n - k)) % 256 ^ k
  | 0, _ => by simp [num]
  | k + 1, h => by
    rw [num, num_be_aux v n k (by omega), Nat.zero_add, be_byte n v k (by omega), byteAt]
    obtain ⟨m, rfl⟩ : ∃ m, n = m + (k + 1) := ⟨n - (k + 1), by omega⟩
    rw [show m + (k + 1) - k = m + 1 by omega, show m + (k + 1) - 1 - k = m by omega, show m + (k + 1) - (k + 1) = m by omega]
    have e1 : (2 : Int) ^ (8 * (m + 1)) = 2 ^ (8 * m) * 256 := by rw [Nat.mul_add, Int.pow_add]; rfl
    have e2 : v / 2 ^ (8 * (m + 1)) = v / 2 ^ (8 * m) / 256 := by rw [e1, Int.ediv_ediv_of_nonneg (Int.pow_nonneg (by decide))]
    rw [e2, Int.pow_succ, Int.mul_comm ((256 : Int) ^ k) 256, emod_two _ _ (Int.pow_pos (by decide))]
theorem num_be (n : Nat) (v : Int) (h : 0 ≤ v ∧ v < 256 ^ n) : num (be n v) 0 n = v := by
  rw [num_be_aux v n n (Nat.le_refl _)]
  simp only [Nat.sub_self, Nat.mul_zero, Int.pow_zero, Int.ediv_one]
  exact Int.emod_eq_of_lt h.1 h.2
end Go.Proofs.YtdccmlpikjbcaaaGreat
