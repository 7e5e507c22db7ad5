/- The walk of the statement DataNumbers. -/
import Derived.Test.YteflpekokgdllaaDataW
import Derived.Test.YteflpekokgdllaaDataH
namespace Go.Proofs.Yteflpekokgdllaa
open Go.RowKit
set_option linter.unusedSimpArgs false
set_option linter.unusedVariables false
set_option maxRecDepth 20000

/-- A new way behind j bytes that were put. -/
def Wy.at (t s : Int) (q : Bool) (j : Nat) : Wy := ⟨t, s, q, j, 0, false, j, 0, 0⟩
theorem at_ok {t s : Int} {q : Bool} {j : Nat} (h : newOk t s = true) (hj : j ≤ 1000) : (Wy.at t s q j).ok := by
  simp only [newOk, inWord, Bool.and_eq_true, decide_eq_true_eq] at h
  constructor <;> simp only [Wy.at] <;> omega
theorem rep_getD (n i : Nat) (h : i < n) : (List.replicate n (0 : Int)).getD i 0 = 0 := by simp [List.getD_eq_getElem?_getD, h]
theorem at_big {t s : Int} {q : Bool} {j : Nat} (d : ByteArray) (hd : d.size = 1500) : (Wy.at t s q j).lay d = (Wy.at t s q j, ⟨#[]⟩, 2) := by
  rw [Wy.lay, if_pos (by omega)]
theorem at_load (t s : Int) (q : Bool) (j : Nat) (d : ByteArray) : ((Wy.at t s q j).load d).agg = .agg #[.int .i64 t, .int .i64 s, .bool q, .int .i64 (if q = true then (j : Int) else 0), .int .i64 0, .string d] := rfl
theorem at_lay {t s : Int} {q : Bool} {j : Nat} (hj : j < 1000) (d : ByteArray) (hd : d.size ≤ 1460) : (Wy.at t s q j).lay d = (Wy.at t s q (j + 1), ((Wy.at t s q j).load d).bytes, 0) := by
  rw [Wy.lay, if_neg (by omega)]
  have e1 : ((j : Int) + 1) % 65536 = (j + 1 : Nat) := by omega
  have e2 : up1 (j : Int) = (j + 1 : Nat) := by unfold up1; omega
  simp only [Wy.at, e1, e2]

set_option maxHeartbeats 4000000 in
set_option maxRecDepth 100000 in
theorem dataNumbers_any (t s : Int) (q : Bool) (n : Int) (w : World) :
    Calls Try.prog 6 #[.int .i64 t, .int .i64 s, .bool q, .int .i64 n] w fun e w' => e = .returned (.bool true) ∧ Upd [] w w' := by
  have h0 := new_any t s q w
  by_cases t1 : newOk t s = true
  rotate_left
  · have t1' : newOk t s = false := by simpa using t1
    simp only [t1', Bool.false_eq_true, ↓reduceIte] at h0
    have H0 := Lib.hid h0
    clear t1 t1' h0
    go_enter Try.func6, Try.ntmps6
    go_wp2_with fail
    refine H0.out.mono ?_
    rintro e w1 ⟨rfl, hu1⟩
    go_wp2_with fail
    refine (dalive_any _).mono ?_
    rintro e w2 ⟨rfl, hu2⟩
    go_wp2_with fail
    go_ret
    exact ⟨rfl, hu1.trans hu2⟩
  simp only [t1, ↓reduceIte] at h0
  have H0 := Lib.hid h0
  have T1 := Lib.hid t1
  clear h0 t1
  by_cases t2 : n < 0
  · go_enter Try.func6, Try.ntmps6
    go_wp2_with fail
    refine H0.out.mono ?_
    rintro e w1 ⟨rfl, hw1, hu1⟩
    go_wp2_with fail
    refine (dalive_any _).mono ?_
    rintro e w2 ⟨rfl, hu2⟩
    go_wp2_with fail
    go_ret
    exact ⟨rfl, hu1.trans hu2⟩
  by_cases t3 : 40 < n
  · go_enter Try.func6, Try.ntmps6
    go_wp2_with fail
    refine H0.out.mono ?_
    rintro e w1 ⟨rfl, hw1, hu1⟩
    go_wp2_with fail
    refine (dalive_any _).mono ?_
    rintro e w2 ⟨rfl, hu2⟩
    go_wp2_with fail
    go_ret
    exact ⟨rfl, hu1.trans hu2⟩
  have info5 : (Try.prog.info? 5).map (fun i => (i.zero, i.size, i.bytes)) = some (some (.int .u8 0), 1, 1) := by kernel_rfl
  obtain ⟨M, hM⟩ : ∃ M, M = madeCells #[Value.int .u8 0] 1500 := ⟨_, rfl⟩
  have hmk : ∀ W : World, (Instr.makeSlice 59 (.int .i64 1500) (.int .i64 1500)).run Try.prog W = .ok (.slice (some ⟨W.heap.size, 0, none⟩) 1500 1500) (W.alloc (.cells M 5)) := fun W => by
    rw [hM]
    exact run_make_row' (P := Try.prog) 59 5 (.int .u8 0) 1 Try.underlying59 info5 rfl .i64 .i64 1500 (by omega) (by omega) W
  obtain ⟨Z, hZ⟩ : ∃ Z, Z = strOfNums (List.replicate 1500 0) := ⟨_, rfl⟩
  have hZs : Z.size = 1500 := by rw [hZ, strOfNums_size, List.length_replicate]
  have hcv : ∀ W : World, (convert 59 9 (.slice (some ⟨W.heap.size, 0, none⟩) 1500 1500)).run Try.prog (W.alloc (.cells M 5)) = .ok (.string Z) (W.alloc (.cells M 5)) := fun W => by
    rw [hZ]
    refine run_convert_bytes_arg (P := Try.prog) _ 59 5 Try.underlying59 Try.underlying5 W.heap.size 0 1500 1500 (List.replicate 1500 0) (by rw [List.length_replicate]) (fun i hi => ?_) 9 Try.underlying9
    rw [Nat.zero_add, hM]
    exact ((World.rowIs_made W (.int .u8 0) 1500 5).cell hi).trans (by rw [rep_getD _ _ hi])
  clear hM hZ info5
  obtain ⟨N, hN⟩ : ∃ N : Nat, (N : Int) = n := ⟨n.toNat, by omega⟩
  subst hN
  have hN40 : N ≤ 40 := by omega
  go_enter Try.func6, Try.ntmps6
  go_wp2_with fail
  refine H0.out.mono ?_
  rintro e w1 ⟨rfl, hw1, hu1⟩
  obtain ⟨b, hb⟩ : ∃ b, b = w.heap.size := ⟨_, rfl⟩
  have HBB : Hid (w.heap.size ≤ b) := by show _ ≤ _; omega
  have HW1 : Hid (WyAt w1 b (Wy.at t s q 0)) := by rw [hb]; exact hw1
  have HU1 := Lib.hid hu1
  rw [← hb]
  clear hw1 hu1 hb
  go_wp2_with fail
  have HB1 : Hid (WyAt (w1.alloc (.cells M 5)) b (Wy.at t s q 0)) := Blk.alloc _ HW1.out
  have UB1 : Hid (Upd [] w (w1.alloc (.cells M 5))) := HU1.out.alloc _
  refine (wayPut_any b (Wy.at t s q 0) Z _ HB1.out (at_ok T1.out (by omega)) (by rw [hZs]; decide)).mono ?_
  rintro e w2 ⟨rfl, hw2, hu2⟩
  rw [at_big Z hZs] at hw2 ⊢
  have HW2 := Lib.hid hw2
  have HU2 : Hid (Upd [] w w2) := UB1.out.trans' hu2 (fun y hy => .inr (by have := HBB.out; simp at hy; omega))
  clear hw2 hu2 hmk hcv hZs
  go_wp2_with fail
  go_loopg [13] N (fun m s13 wr => ∃ k : Nat, k + m = N ∧ s13 = .int .i64 k ∧ WyAt wr b (Wy.at t s q k) ∧ Upd [] w wr)
  case atStart => exact ⟨0, by omega, rfl, HW2.out, HU2.out⟩
  case round =>
    obtain ⟨k, hk, rfl, hw, hu⟩ := hrel
    have HW := Lib.hid hw
    have HU := Lib.hid hu
    have hk40 : k ≤ 40 := by omega
    clear hw hu
    by_cases tk : k < N
    · have hl := at_load t s q k ⟨#[120]⟩
      go_wp2_with fail
      refine (wayPut_any b (Wy.at t s q k) ⟨#[120]⟩ _ HW.out (at_ok T1.out (by omega)) (by decide)).mono ?_
      rintro e w3 ⟨rfl, hw3, hu3⟩
      rw [at_lay (by omega) _ (by decide)] at hw3 ⊢
      have HW3 := Lib.hid hw3
      have HU3 : Hid (Upd [] w w3) := HU.out.trans' hu3 (fun y hy => .inr (by have := HBB.out; simp at hy; omega))
      clear hw3 hu3
      go_wp2_with fail
      refine (getLoad_way (Wy.at t s q k) ⟨#[120]⟩ (at_ok T1.out (by omega)) (by decide) _).mono ?_
      rintro e w4 ⟨rfl, hu4⟩
      rw [hl]
      have HL4 : Hid (WyAt (w4.alloc (.cells #[.int .i64 t, .int .i64 s, .bool q, .int .i64 (if q = true then (k : Int) else 0), .int .i64 0, .string ⟨#[120]⟩] 45)) b (Wy.at t s q (k + 1))) := Blk.alloc _ (HW3.out.upd hu4 (by simp))
      have HU4 : Hid (Upd [] w (w4.alloc (.cells #[.int .i64 t, .int .i64 s, .bool q, .int .i64 (if q = true then (k : Int) else 0), .int .i64 0, .string ⟨#[120]⟩] 45))) := (HU3.out.trans hu4).alloc _
      clear hu4 hl
      cases q with
      | true =>
        simp only [↓reduceIte] at HL4 HU4 ⊢
        go_wp2_with fail
        go_roundg (N - (k + 1))
        case rel => exact ⟨k + 1, by omega, by go_num, HL4.out, HU4.out⟩
        case measure => omega
      | false =>
        simp only [Bool.false_eq_true, ↓reduceIte] at HL4 HU4 ⊢
        go_wp2_with fail
        go_roundg (N - (k + 1))
        case rel => exact ⟨k + 1, by omega, by go_num, HL4.out, HU4.out⟩
        case measure => omega
    · obtain rfl : k = N := by omega
      have htn : (Wy.at t s q k).tunnel ≠ 0 := by have := (at_ok (q := q) T1.out (by omega : k ≤ 1000)).tunnel; omega
      have htk : (Wy.at t s q k).put = (k : Int) ∧ (Wy.at t s q k).taken = 0 ∧ (Wy.at t s q k).missed = 0 := ⟨rfl, rfl, rfl⟩
      have HTK := Lib.hid htk
      have HTN := Lib.hid htn
      clear htk htn
      go_wp2_with fail
      refine (counts_any b (Wy.at t s q k) _ HW.out HTN.out).mono ?_
      rintro e w3 ⟨rfl, hu3⟩
      rw [HTK.out.1, HTK.out.2.1, HTK.out.2.2]
      go_wp2_with fail
      refine (dalive_any _).mono ?_
      rintro e w4 ⟨rfl, hu4⟩
      go_wp2_with fail
      go_ret
      exact ⟨rfl, (HU.out.trans hu3).trans hu4⟩
theorem dataNumbers_walk (t : Int) (_ : (Lit.int .i64 t).wf = true) (s : Int) (_ : (Lit.int .i64 s).wf = true) (q : Bool) (n : Int) (_ : (Lit.int .i64 n).wf = true) (W : World) :
    Calls Try.prog 6 #[.int .i64 t, .int .i64 s, .bool q, .int .i64 n] W fun e w' => e = .returned (.bool true) ∧ Below W.heap.size W w' :=
  (dataNumbers_any t s q n W).mono fun e w' ⟨he, hu⟩ => ⟨he, hu.below⟩
end Go.Proofs.Yteflpekokgdllaa
