/- The walks of the document's own Low, Two, Num. -/
import Derived.Test.YtglafpdealjlnaaGreatQLib
namespace Go.Proofs.YtglafpdealjlnaaGreat
open Go.RowKit
set_option linter.unusedSimpArgs false
set_option linter.unusedVariables false
set_option maxRecDepth 100000

theorem pow8_succ (v : Int) (k : Nat) : v / 2 ^ (8 * k) / 256 = v / 2 ^ (8 * (k + 1)) := by
  have e1 : (2 : Int) ^ (8 * (k + 1)) = 2 ^ (8 * k) * 256 := by rw [Nat.mul_add, Int.pow_add]; rfl
  rw [e1, Int.ediv_ediv_of_nonneg (Int.pow_nonneg (by decide))]
set_option maxHeartbeats 1000000 in
theorem rlow_all (v : Int) (n : Nat) (h1 : 1 ≤ n) (hn : n ≤ 1000) (hv : -9223372036854775808 ≤ v ∧ v ≤ 9223372036854775807) (w : World) :
    Calls Tryz.prog 241 #[.int .i64 v, .int .i64 n] w fun e w' => e = .returned (.string (be n v)) ∧ Upd [] w w' := by
  have info5 : (Tryz.prog.info? 5).map (fun i => (i.zero, i.size, i.bytes)) = some (some (.int .u8 0), 1, 1) := by kernel_rfl
  have hmk := run_make_row' (P := Tryz.prog) 151 5 (.int .u8 0) 1 Tryz.underlying151 info5 rfl .i64 .i64 n (by omega) (by omega)
  obtain ⟨v0, v1⟩ := hv
  go_enter Tryz.func241, Tryz.ntmps241
  go_wp2_with fail
  go_loopg [0, 6] n (fun m s0 s6 wr => ∃ (k : Nat) (x y : Int), k + m = n ∧ s0 = .int .i64 x ∧ s6 = .int .i64 y ∧ y = n - 1 - k ∧ x = v / 2 ^ (8 * k) ∧ -9223372036854775808 ≤ x ∧ x ≤ 9223372036854775807 ∧ Upd [] w wr ∧ wr.rowIs w.heap.size 5 n (fun j => .int .u8 (if n ≤ j + k then byteAt v n j else 0)))
  case atStart =>
    refine ⟨0, v, _, by omega, rfl, rfl, by omega, by simp, v0, v1, (Upd.refl _ _).alloc _, ?_⟩
    refine (World.rowIs_made w (.int .u8 0) n 5).congr fun j hj => ?_
    rw [if_neg (by omega)]
  case round =>
    obtain ⟨k, x, y, hk, rfl, rfl, hy, hx, x0, x1, hu, hr⟩ := hrel
    by_cases t : k < n
    · obtain ⟨i, rfl⟩ : ∃ i : Nat, y = i := ⟨n - 1 - k, by omega⟩
      have hi : i = n - 1 - k := by omega
      have hf := hr.frozen i
      have hc := hr.cell (i := i) (by omega)
      have HX := Lib.hid hx
      have HI := Lib.hid hi
      have HU := Lib.hid hu
      have HR := Lib.hid hr
      have hin : (i : Int) < n := by omega
      have hi0 : (0 : Int) ≤ i := by omega
      have hin' : i < n := by omega
      have hx2 : -9223372036854775808 ≤ x / 256 ∧ x / 256 ≤ 9223372036854775807 := by omega
      clear hx hi hy hu hr
      go_wp2_with fail
      go_roundg (n - (k + 1))
      case rel =>
        have hi := HI.out
        refine ⟨k + 1, _, _, by omega, rfl, rfl, by omega, by rw [HX.out, pow8_succ], hx2.1, hx2.2, HU.out.setCell _ (.inr (Nat.le_refl _)), ?_⟩
        refine (HR.out.set _ _).congr fun j hj => ?_
        by_cases hjk : j = i
        · subst hjk
          rw [if_pos rfl, if_pos (by omega), byteAt, show n - 1 - j = k by omega, ← HX.out]
        · rw [if_neg hjk]
          by_cases h2 : n ≤ j + k
          · rw [if_pos h2, if_pos (by omega)]
          · rw [if_neg h2, if_neg (by omega)]
      case measure => omega
    · obtain rfl : k = n := by omega
      obtain rfl : y = -1 := by omega
      have hcv := run_convert_bytes_arg (P := Tryz.prog) wr 151 5 Tryz.underlying151 Tryz.underlying5 w.heap.size 0 k k ((List.range k).map (byteAt v k)) (by simp) (fun i hi => by rw [Nat.zero_add, hr.cell hi]; simp [hi]) 9 Tryz.underlying9
      have HU := Lib.hid hu
      clear hx hy hu hr
      go_wp2_with fail
      go_ret
      exact ⟨rfl, HU.out⟩
theorem rlow_any (v : Int) (n : Nat) (h1 : 1 ≤ n) (hn : n ≤ 1000) (hv : 0 ≤ v ∧ v < 4611686018427387904) (w : World) :
    Calls Tryz.prog 241 #[.int .i64 v, .int .i64 n] w fun e w' => e = .returned (.string (be n v)) ∧ Upd [] w w' := rlow_all v n h1 hn (by omega) w
theorem rtwo_any (v : Int) (h : 0 ≤ v ∧ v < 4611686018427387904) (w : World) : Calls Tryz.prog 100 #[.int .i64 v] w fun e w' => e = .returned (.string (be 2 v)) ∧ Upd [] w w' := by
  go_enter Tryz.func100, Tryz.ntmps100
  go_wp2_with fail
  refine (rlow_any v 2 (by omega) (by omega) h _).mono ?_
  rintro e w1 ⟨rfl, hu⟩
  go_wp2_with fail
  go_ret
  exact ⟨rfl, hu⟩
set_option maxHeartbeats 1000000 in
theorem rnum_quiet (s : ByteArray) (i : Nat) (hs : s.size ≤ maxLen) (hv : i + 2 ≤ s.size) (w : World) :
    Calls Tryz.prog 88 #[.string s, .int .i64 i] w fun e w' => e = .returned (.int .i64 (num s i 2)) ∧ ∃ x, w' = w.drewN x := by
  simp only [maxLen] at hs
  have q0 := byte_get s i (by omega)
  have q1 := byte_get s (i + 1) (by omega)
  have b0 := byte_bd s i
  have b1 := byte_bd s (i + 1)
  have HN : Hid (byte s i * 256 + byte s (i + 1) = num s i 2) := by show _ = _; simp [num]
  generalize byte s i = y0 at *
  generalize byte s (i + 1) = y1 at *
  have w1 : IntKind.i64.wrap ((i : Int) + 1) = (i : Int) + 1 := IntWalk.i64_in _ (by omega)
  have w2 : ((i : Int) + 1).toNat = i + 1 := by omega
  have w3 : True → IntKind.i64.wrap y0 = y0 := fun _ => IntWalk.i64_in _ (by omega)
  have w4 : True → IntKind.i64.wrap y1 = y1 := fun _ => IntWalk.i64_in _ (by omega)
  go_enter Tryz.func88, Tryz.ntmps88
  go_wp2_with fail
  go_quiet (fail)
  go_wp2_with fail
  go_ret
  refine ⟨?_, _, rfl⟩
  rw [← HN.out]
  rfl
theorem rnum_any (s : ByteArray) (i : Nat) (hs : s.size ≤ maxLen) (hv : i + 2 ≤ s.size) (w : World) :
    Calls Tryz.prog 88 #[.string s, .int .i64 i] w fun e w' => e = .returned (.int .i64 (num s i 2)) ∧ Upd [] w w' :=
  (rnum_quiet s i hs hv w).mono fun e w' ⟨h1, x, h2⟩ => ⟨h1, h2 ▸ (Upd.refl _ _).drewN x⟩
end Go.Proofs.YtglafpdealjlnaaGreat
