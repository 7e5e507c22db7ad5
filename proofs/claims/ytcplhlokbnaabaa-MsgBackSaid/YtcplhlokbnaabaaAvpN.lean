/- The walks of avp.in, avp.Num. -/
import Derived.Test.YtcplhlokbnaabaaAvpA
import Derived.Test.YtcplhlokbnaabaaWire
namespace Go.Proofs.Ytcplhlokbnaabaa
open Go.RowKit
set_option linter.unusedSimpArgs false
set_option maxRecDepth 20000
set_option linter.unusedVariables false

set_option maxHeartbeats 400000 in
theorem avpIn_any (n a b : Int) (w : World) :
    Calls Try.prog 34 #[.int .i64 n, .int .i64 a, .int .i64 b] w fun e w' => e = .returned (.bool (decide (a ≤ n) && decide (n ≤ b))) ∧ w = w' := by
  go_enter Try.func34, Try.ntmps34
  go_wp2
  all_goals
    go_ret
    refine ⟨?_, rfl⟩
    simp_all
    try omega

def numAv (kind v : Int) (n : Nat) : Av := ⟨true, false, 0, kind, be n v⟩
set_option maxHeartbeats 2000000 in
theorem num_ok (kind v : Int) (n : Nat) (hn : 1 ≤ n ∧ n ≤ 8) (w : World) :
    Calls Try.prog 21 #[.int .i64 kind, .int .i64 v, .int .i64 n] w fun e w' => e = .returned (numAv kind v n).agg ∧ Upd [] w w' := by
  have info5 : (Try.prog.info? 5).map (fun i => (i.zero, i.size, i.bytes)) = some (some (.int .u8 0), 1, 1) := by kernel_rfl
  have hmk := run_make_row' (P := Try.prog) 69 5 (.int .u8 0) 1 Try.underlying69 info5 rfl .i64 .i64 n (by omega) (by omega)
  simp only [Av.agg, numAv]
  have hin : (decide (1 ≤ (n : Int)) && decide ((n : Int) ≤ 8)) = true := by simp; omega
  go_enter Try.func21, Try.ntmps21
  go_wp2_with fail
  refine (avpIn_any _ _ _ _).mono ?_
  rintro e w' ⟨rfl, rfl⟩
  go_wp2
  go_loopg [20] n (fun m s20 wr => ∃ k : Nat, k + m = n ∧ s20 = .int .i64 k ∧ Upd [] w wr ∧ Blk wr w.heap.size 27 #[.bool false, .bool false, .int .i64 0, .int .i64 0, .string ⟨#[]⟩] ∧
    Blk wr (w.heap.size + 1) 27 #[.bool true, .bool false, .int .i64 0, .int .i64 kind, .string ⟨#[]⟩] ∧ wr.rowIs (w.heap.size + 2) 5 n (fun j => .int .u8 (if n ≤ j + k then byteAt v n j else 0)))
  case atStart =>
    refine ⟨0, by omega, rfl, (((Upd.refl _ _).alloc _).alloc _).alloc _, ((Blk.new _ _ _).alloc _).alloc _, ?_, ?_⟩
    · have h := (Blk.new (w.alloc (Obj.cells #[Value.bool false, Value.bool false, Value.int IntKind.i64 0, Value.int IntKind.i64 0, Value.string ⟨#[]⟩] 27)) 27 #[.bool true, .bool false, .int .i64 0, .int .i64 kind, .string ⟨#[]⟩])
      have hz : (w.alloc (Obj.cells #[Value.bool false, Value.bool false, Value.int IntKind.i64 0, Value.int IntKind.i64 0, Value.string ⟨#[]⟩] 27)).heap.size = w.heap.size + 1 := by simp
      rw [hz] at h
      exact h.alloc _
    · have h := World.rowIs_made ((w.alloc (Obj.cells #[Value.bool false, Value.bool false, Value.int IntKind.i64 0, Value.int IntKind.i64 0, Value.string ⟨#[]⟩] 27)).alloc (Obj.cells #[.bool true, .bool false, .int .i64 0, .int .i64 kind, .string ⟨#[]⟩] 27)) (.int .u8 0) n 5
      have hz : ((w.alloc (Obj.cells #[Value.bool false, Value.bool false, Value.int IntKind.i64 0, Value.int IntKind.i64 0, Value.string ⟨#[]⟩] 27)).alloc (Obj.cells #[.bool true, .bool false, .int .i64 0, .int .i64 kind, .string ⟨#[]⟩] 27)).heap.size = w.heap.size + 2 := by simp
      rw [hz] at h
      refine h.congr fun j hj => ?_
      rw [if_neg (by omega)]
  case round =>
    obtain ⟨k, hk, rfl, hu, b0, b1, hr⟩ := hrel
    by_cases t : k < n
    · have hf := hr.frozen (n - 1 - k)
      have hc := hr.cell (i := n - 1 - k) (by omega)
      have HX := Lib.hid (And.intro hu (And.intro b0 (And.intro b1 hr)))
      clear hu b0 b1 hr
      go_wp2
      go_roundg (n - (k + 1))
      case rel =>
        obtain ⟨hu, b0, b1, hr⟩ := HX.out
        refine ⟨k + 1, by omega, by go_num, hu.setCell _ (.inr (by show w.heap.size ≤ w.heap.size + 1 + 1; omega)), b0.far _ (by show w.heap.size ≠ w.heap.size + 1 + 1; omega), b1.far _ (by show w.heap.size + 1 ≠ w.heap.size + 1 + 1; omega), ?_⟩
        refine (hr.set _ _).congr fun j hj => ?_
        by_cases hjk : j = n - 1 - k
        · subst hjk
          rw [if_pos rfl, if_pos (by omega), byteAt, show n - 1 - (n - 1 - k) = k by omega]
        · rw [if_neg hjk]
          by_cases h2 : n ≤ j + k
          · rw [if_pos h2, if_pos (by omega)]
          · rw [if_neg h2, if_neg (by omega)]
      case measure => omega
    · obtain rfl : k = n := by omega
      have hcv := run_convert_bytes_arg (P := Try.prog) wr 69 5 Try.underlying69 Try.underlying5 (w.heap.size + 1 + 1) 0 k k ((List.range k).map (byteAt v k)) (by simp) (fun i hi => by rw [Nat.zero_add]; exact (hr.cell hi).trans (by simp [hi])) 9 Try.underlying9
      have hb : strOfNums ((List.range k).map (byteAt v k)) = be k v := rfl
      rw [hb] at hcv
      have HX := Lib.hid (And.intro hu (And.intro b0 b1))
      have s0 := b0.cell 0
      have s1 := b0.cell 1
      have s2 := b0.cell 2
      have s3 := b0.cell 3
      have s4 := b0.cell 4
      have u0 := b0.frozen 0
      have u1 := b0.frozen 1
      have u2 := b0.frozen 2
      have u3 := b0.frozen 3
      have u4 := b0.frozen 4
      have r0 := b1.cell 0
      have r1 := b1.cell 1
      have r2 := b1.cell 2
      have r3 := b1.cell 3
      have r4 := b1.cell 4
      have y4 := b1.frozen 4
      simp at s0 s1 s2 s3 s4 r0 r1 r2 r3 r4
      clear hu b0 b1 hr hb
      go_wp2
      obtain ⟨hu, b0, b1⟩ := HX.out
      have RR := (((((b0.far (p := ⟨w.heap.size + 1, 4, none⟩) (.string (be k v)) (by show w.heap.size ≠ w.heap.size + 1; omega)).set_ 0 (.bool true)).set_ 1 (.bool false)).set_ 2 (.int .i64 0)).set_ 3 (.int .i64 kind)).set_ 4 (.string (be k v))
      have q0 := RR.cell 0
      have q1 := RR.cell 1
      have q2 := RR.cell 2
      have q3 := RR.cell 3
      have q4 := RR.cell 4
      simp at q0 q1 q2 q3 q4
      exact bodyPost_ret (v := .agg #[.bool true, .bool false, .int .i64 0, .int .i64 kind, .string (be k v)]) (by simp [results, Try.results21, go_sem, q0, q1, q2, q3, q4]) rfl ⟨rfl, (((((hu.setCell _ (.inr (Nat.le_succ _))).setCell _ (.inr (Nat.le_refl _))).setCell _ (.inr (Nat.le_refl _))).setCell _ (.inr (Nat.le_refl _))).setCell _ (.inr (Nat.le_refl _))).setCell _ (.inr (Nat.le_refl _))⟩
end Go.Proofs.Ytcplhlokbnaabaa
