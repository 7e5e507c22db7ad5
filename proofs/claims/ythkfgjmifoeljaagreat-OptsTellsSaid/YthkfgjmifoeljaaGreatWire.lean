/- wire.in, wire.Put, wire.Get: numbers in bytes. -/
import Derived.Test.YthkfgjmifoeljaaGreatProg
import Derived.Test.YthkfgjmifoeljaaGreatLib
import Derived.Test.YthkfgjmifoeljaaGreatNum
import Derived.Test.YthkfgjmifoeljaaGreatBytes
import Derived.Deep.OwnRows
namespace Go.Proofs.YthkfgjmifoeljaaGreat
open Go.RowKit
set_option maxRecDepth 20000

set_option maxHeartbeats 400000 in
theorem wireIn_any (n a b : Int) (w : World) :
    Calls Tryz.prog 120 #[.int .i64 n, .int .i64 a, .int .i64 b] w fun e w' => e = .returned (.bool (decide (a ≤ n) && decide (n ≤ b))) ∧ w = w' := by
  go_enter Tryz.func120, Tryz.ntmps120
  go_wp2
  all_goals
    go_ret
    refine ⟨?_, rfl⟩
    simp_all
    try omega

theorem pow256 (n : Nat) : (2 : Int) ^ (8 * n) = 256 ^ n := by rw [Int.pow_mul]; rfl

set_option maxHeartbeats 400000 in
theorem wirePut_bad (v : Int) (n : Nat) (hn : 1 ≤ n ∧ n ≤ 4) (hv : ¬ (0 ≤ v ∧ v < 256 ^ n)) (w : World) :
    Calls Tryz.prog 118 #[.int .i64 v, .int .i64 n] w fun e w' => e = .returned (.tuple #[.string ⟨#[]⟩, .int .i64 1]) ∧ w = w' := by
  by_cases t1 : v < 0
  · go_enter Tryz.func118, Tryz.ntmps118
    go_wp2_with fail
    refine (wireIn_any _ _ _ _).mono ?_
    rintro e w' ⟨rfl, rfl⟩
    go_wp2
    go_ret2
    exact ⟨rfl, rfl⟩
  · have tq : ¬ (v / 2 ^ (8 * n) = 0) := by
      rw [pow256]
      intro h
      have hp : (0 : Int) < 256 ^ n := Int.pow_pos (by decide)
      have h2 := Int.lt_ediv_add_one_mul_self v hp
      rw [h] at h2
      exact hv ⟨by omega, by omega⟩
    have tq : (v / 2 ^ (8 * n) != 0) = true := by simpa using tq
    go_enter Tryz.func118, Tryz.ntmps118
    go_wp2_with fail
    refine (wireIn_any _ _ _ _).mono ?_
    rintro e w' ⟨rfl, rfl⟩
    go_wp2
    go_ret2
    exact ⟨rfl, rfl⟩

set_option maxHeartbeats 1000000 in
theorem wirePut_ok (v : Int) (n : Nat) (hn : 1 ≤ n ∧ n ≤ 4) (hv : 0 ≤ v ∧ v < 256 ^ n) (w : World) :
    Calls Tryz.prog 118 #[.int .i64 v, .int .i64 n] w fun e w' => e = .returned (.tuple #[.string (be n v), .int .i64 0]) ∧ Upd [] w w' := by
  have tq : v / 2 ^ (8 * n) = 0 := by
    rw [pow256]
    exact Int.ediv_eq_zero_of_lt hv.1 hv.2
  have hv0 := hv.1
  have HV := Lib.hid hv
  clear hv
  have info5 : (Tryz.prog.info? 5).map (fun i => (i.zero, i.size, i.bytes)) = some (some (.int .u8 0), 1, 1) := by kernel_rfl
  have hmk := run_make_row' (P := Tryz.prog) 71 5 (.int .u8 0) 1 Tryz.underlying71 info5 rfl .i64 .i64 n (by omega) (by omega)
  go_enter Tryz.func118, Tryz.ntmps118
  go_wp2_with fail
  refine (wireIn_any _ _ _ _).mono ?_
  rintro e w' ⟨rfl, rfl⟩
  go_wp2
  go_loopg [26] n (fun m s26 wr => ∃ k : Nat, k + m = n ∧ s26 = .int .i64 k ∧ Upd [] w wr ∧ wr.rowIs w.heap.size 5 n (fun j => .int .u8 (if n ≤ j + k then byteAt v n j else 0)))
  case atStart => 
    refine ⟨0, by omega, rfl, (Upd.refl _ _).alloc _, ?_⟩
    refine (World.rowIs_made w (.int .u8 0) n 5).congr fun j hj => ?_
    rw [if_neg (by omega)]
  case round =>
    obtain ⟨k, hk, rfl, hu, hr⟩ := hrel
    by_cases t : k < n
    · have hf := hr.frozen (n - 1 - k)
      have hc := hr.cell (i := n - 1 - k) (by omega)
      go_wp2
      go_roundg (n - (k + 1))
      case rel =>
        refine ⟨k + 1, by omega, by go_num, hu.setCell _ (.inr (Nat.le_refl _)), ?_⟩
        refine (hr.set _ _).congr fun j hj => ?_
        by_cases hjk : j = n - 1 - k
        · subst hjk
          rw [if_pos rfl, if_pos (by omega), byteAt, show n - 1 - (n - 1 - k) = k by omega]
        · rw [if_neg hjk]
          by_cases h2 : n ≤ j + k
          · rw [if_pos h2, if_pos (by omega)]
          · rw [if_neg h2, if_neg (by omega)]
      case measure => omega
    · obtain rfl : k = n := by omega
      have hcv := run_convert_bytes_arg (P := Tryz.prog) wr 71 5 Tryz.underlying71 Tryz.underlying5 w.heap.size 0 k k ((List.range k).map (byteAt v k)) (by simp) (fun i hi => by rw [Nat.zero_add, hr.cell hi]; simp [hi]) 9 Tryz.underlying9
      go_wp2
      go_ret2
      exact ⟨rfl, hu⟩

theorem or_low (a x : Int) (h : 0 ≤ a ∧ a < 16777216 ∧ 0 ≤ x ∧ x < 256) : bits .or .i64 (wrap64 (a * 256)) (wrap64 x) = a * 256 + x := by
  obtain ⟨m, rfl⟩ := Int.eq_ofNat_of_zero_le h.1
  obtain ⟨y, rfl⟩ := Int.eq_ofNat_of_zero_le h.2.2.1
  rw [IntWalk.wrap64_in _ (by omega), IntWalk.wrap64_in _ (by omega)]
  have h1 : (BitVec.ofInt 64 ((m : Int) * 256)).toNat = m * 256 := by
    rw [BitVec.toNat_ofInt]
    omega
  have h2 : (BitVec.ofInt 64 (y : Int)).toNat = y := by
    rw [BitVec.toNat_ofInt]
    omega
  show IntKind.i64.wrap ((BitVec.ofInt 64 ((m : Int) * 256) ||| BitVec.ofInt 64 (y : Int)).toNat : Nat) = _
  rw [BitVec.toNat_or, h1, h2, show m * 256 = 2 ^ 8 * m by omega, ← Nat.two_pow_add_eq_or_of_lt (by omega)]
  rw [IntWalk.i64_in _ (by omega)]
  omega

theorem byte_get (s : ByteArray) (i : Nat) (h : i < s.size) : (s[i].toNat : Int) = byte s i := by
  have h' : i < s.data.size := h
  simp only [byte, Array.getElem?_eq_getElem h', Option.getD_some]
  rfl

set_option maxHeartbeats 1000000 in
theorem wireGet_bad (s : ByteArray) (i n : Nat) (hn : 1 ≤ n ∧ n ≤ 4) (hv : ¬ (i + n ≤ s.size)) (w : World) :
    Calls Tryz.prog 39 #[.string s, .int .i64 i, .int .i64 n] w fun e w' => e = .returned (.tuple #[.int .i64 0, .int .i64 5]) ∧ w = w' := by
  by_cases t1 : s.size < i
  · go_enter Tryz.func39, Tryz.ntmps39
    go_wp2_with fail
    refine (wireIn_any _ _ _ _).mono ?_
    rintro e w' ⟨rfl, rfl⟩
    go_wp2
    go_ret2
    exact ⟨rfl, rfl⟩
  · go_enter Tryz.func39, Tryz.ntmps39
    go_wp2_with fail
    refine (wireIn_any _ _ _ _).mono ?_
    rintro e w' ⟨rfl, rfl⟩
    go_wp2
    go_ret2
    exact ⟨rfl, rfl⟩

set_option maxHeartbeats 1000000 in
theorem wireGet_ok (s : ByteArray) (i n : Nat) (hn : 1 ≤ n ∧ n ≤ 4) (hs : s.size ≤ maxLen) (hv : i + n ≤ s.size) (w : World) :
    Calls Tryz.prog 39 #[.string s, .int .i64 i, .int .i64 n] w fun e w' => e = .returned (.tuple #[.int .i64 (num s i n), .int .i64 0]) ∧ w = w' := by
  simp only [maxLen] at hs
  have q1 : ¬ s.size < i := by omega
  have q2 : ¬ ((s.size : Int) - i < n) := by omega
  have q3 : ¬ ((i : Int) < 0) := by omega
  go_enter Tryz.func39, Tryz.ntmps39
  go_wp2_with fail
  refine (wireIn_any _ _ _ _).mono ?_
  rintro e w' ⟨rfl, rfl⟩
  go_wp2
  go_loopg [8, 32] n (fun m s8 s32 wr => wr = w ∧ ∃ k : Nat, k + m = n ∧ s32 = .int .i64 k ∧ s8 = .int .i64 (num s i k))
  case atStart => exact ⟨rfl, 0, by omega, rfl, rfl⟩
  case round =>
    obtain ⟨rfl, k, hk, rfl, rfl⟩ := hrel
    by_cases t : k < n
    · have hE : Hid (bits .or .i64 (wrap64 (num s i k * 256)) (wrap64 (s[i + k].toNat : Int)) = num s i (k + 1)) := by
        have h1 := num_bd s i k
        have h2 := byte_bd s (i + k)
        have h3 : (256 : Int) ^ k ≤ 256 ^ 3 := by
          have h4 : k = 0 ∨ k = 1 ∨ k = 2 ∨ k = 3 := by omega
          rcases h4 with h4 | h4 | h4 | h4 <;> rw [h4] <;> decide
        show _ = _
        rw [← byte_get s (i + k) (by omega)] at h2
        rw [or_low _ _ (by omega), byte_get s (i + k) (by omega)]
        rfl
      go_wp2
      go_roundg (n - (k + 1))
      case rel => exact ⟨rfl, k + 1, by omega, by go_num, by rw [hE.out]⟩
      case measure => omega
    · obtain rfl : k = n := by omega
      go_wp2
      go_ret2
      exact ⟨rfl, rfl⟩
end Go.Proofs.YthkfgjmifoeljaaGreat
