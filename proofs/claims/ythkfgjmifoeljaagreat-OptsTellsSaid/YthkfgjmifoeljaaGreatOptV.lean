/- The walk of opts.Value. -/
import Derived.Test.YthkfgjmifoeljaaGreatProg
import Derived.Test.YthkfgjmifoeljaaGreatWire
namespace Go.Proofs.YthkfgjmifoeljaaGreat
open Go.RowKit
set_option linter.unusedSimpArgs false
set_option linter.unusedVariables false

theorem or_low7 (a x : Int) (h : 0 ≤ a ∧ a < 281474976710656 ∧ 0 ≤ x ∧ x < 256) : bits .or .i64 (wrap64 (a * 256)) (wrap64 x) = a * 256 + x := by
  obtain ⟨m, rfl⟩ := Int.eq_ofNat_of_zero_le h.1
  obtain ⟨y, rfl⟩ := Int.eq_ofNat_of_zero_le h.2.2.1
  rw [IntWalk.wrap64_in _ (by omega), IntWalk.wrap64_in _ (by omega)]
  have h1 : (BitVec.ofInt 64 ((m : Int) * 256)).toNat = m * 256 := by
    rw [BitVec.toNat_ofInt]
    omega
  have h2 : (BitVec.ofInt 64 (y : Int)).toNat = y := by
    rw [BitVec.toNat_ofInt]
    omega
  show IntKind.i64.wrap ((BitVec.ofInt 64 ((m : Int) * 256) ||| BitVec.ofInt 64 (y : Int)).toNat : Nat) = _
  rw [BitVec.toNat_or, h1, h2, show m * 256 = 2 ^ 8 * m by omega, ← Nat.two_pow_add_eq_or_of_lt (by omega)]
  rw [IntWalk.i64_in _ (by omega)]
  omega

def valueB (s : ByteArray) : Int × Bool := if 7 < s.size then (0, false) else (num s 0 s.size, true)
set_option maxHeartbeats 1000000 in
theorem value_any (s : ByteArray) (hs : s.size ≤ maxLen) (w : World) :
    Calls Tryz.prog 23 #[.string s] w fun e w' => e = .returned (.tuple #[.int .i64 (valueB s).1, .bool (valueB s).2]) ∧ w = w' := by
  simp only [maxLen] at hs
  by_cases t1 : 7 < s.size
  · have HQ : Hid (valueB s = (0, false)) := if_pos t1
    rw [HQ.out]
    go_enter Tryz.func23, Tryz.ntmps23
    go_wp2
    go_ret2
    exact ⟨rfl, rfl⟩
  · have HQ : Hid (valueB s = (num s 0 s.size, true)) := if_neg t1
    rw [HQ.out]
    have t1' : ¬ (7 : Int) < s.size := by omega
    clear HQ
    obtain ⟨n, hn⟩ : ∃ n, n = s.size := ⟨_, rfl⟩
    have HN := Lib.hid hn
    clear hn
    go_enter Tryz.func23, Tryz.ntmps23
    go_wp2
    go_loopg [4, 11] s.size (fun m s4 s11 wr => wr = w ∧ ∃ k : Nat, k + m = s.size ∧ s11 = .int .i64 k ∧ s4 = .int .i64 (num s 0 k))
    case atStart => exact ⟨rfl, 0, by omega, rfl, rfl⟩
    case round =>
      obtain ⟨rfl, k, hk, rfl, rfl⟩ := hrel
      by_cases t : k < s.size
      · have hE : Hid (bits .or .i64 (wrap64 (num s 0 k * 256)) (wrap64 (s[k].toNat : Int)) = num s 0 (k + 1)) := by
          have h1 := num_bd s 0 k
          have h2 := byte_bd s k
          have h3 : (256 : Int) ^ k ≤ 256 ^ 6 := by
            have h4 : k = 0 ∨ k = 1 ∨ k = 2 ∨ k = 3 ∨ k = 4 ∨ k = 5 ∨ k = 6 := by omega
            rcases h4 with h4 | h4 | h4 | h4 | h4 | h4 | h4 <;> rw [h4] <;> decide
          show _ = _
          rw [← byte_get s k (by omega)] at h2
          rw [or_low7 _ _ (by omega), byte_get s k (by omega), num, Nat.zero_add]
        go_wp2
        go_roundg (s.size - (k + 1))
        case rel => exact ⟨rfl, k + 1, by omega, by go_num, by rw [hE.out]⟩
        case measure => omega
      · obtain rfl : k = s.size := by omega
        go_wp2
        go_ret2
        exact ⟨rfl, rfl⟩
end Go.Proofs.YthkfgjmifoeljaaGreat
