/- The walk of chapter 22's CallFaulty. -/
import Derived.Test.YtihedbaomingpaaCallAl
namespace Go.Proofs.Ytihedbaomingpaa
open Go.RowKit
set_option linter.unusedSimpArgs false
set_option linter.unusedVariables false
set_option maxRecDepth 100000

theorem Own.avs_far {w w' : World} {b : Nat} {k : K} {u : Value} {l : List Av} {n : Nat} {own : List Nat} (h : Own w 42 5 u n (avCells l) own) (hn : n = l.length) (hc : CallAt w b k) (hu : Upd [b] w w') : AvsAt w' u l := by
  subst hn
  obtain ⟨vw, vg, ow, og, g1, _, _⟩ := hc
  exact AvsAt.of_own (h.upd hu (fun x hx => by simp; rintro rfl; exact h.ne_blk g1 (by decide) hx))
def faL (id : Int) : List Av := [numAv 0 14 2, numAv 1 2 2, numAv 14 id 2]
theorem fa_check : checkOf [numAv 0 11 2] ≠ 0 := by decide +kernel
theorem fa_kind : kindOf [numAv 0 11 2] = 11 := by decide +kernel
theorem fa_idle (id : Int) (out : Bool) : (K.new id 1 out).take [numAv 0 11 2] = (K.new id 1 out, []) := by
  have : roleOf 11 out ≠ 1 := by cases out <;> decide
  simp only [K.take, fa_kind, K.new]
  simp [this]
theorem fa_open (id : Int) (out : Bool) : (K.new id 1 out).openC.1.take [numAv 0 11 2] = ((K.new id 1 out).fin 2 |>.1, [(0, faL id)]) := by
  simp only [K.take, fa_kind, K.new, K.openC]
  simp [fa_check, K.fin, K.say, K.own, faL]
theorem find_num (k v : Int) (n : Nat) (l : List Av) : findAv k (numAv k v n :: l) = (be n v, true) := by simp [findAv, avIs, numAv]
theorem find_skip (k k' v : Int) (n : Nat) (l : List Av) (h : k' ≠ k) : findAv k (numAv k' v n :: l) = findAv k l := by
  have : avIs k (numAv k' v n) = false := by simp [avIs, numAv, h]
  simp [findAv, this]
theorem number_be (v : Int) (h : 0 ≤ v ∧ v < 65536) : valueB (be 2 v) = (v, true) := by
  simp [valueB, be_size]
  exact num_be 2 v (by simpa using h)
theorem fa_n1 (id : Int) : numberAv (faL id) 1 = (2, true) := by
  rw [numberAv, faL, find_skip _ _ _ _ _ (by decide), find_num]
  simp [be_size]
  exact number_be 2 (by omega)
theorem fa_n14 (id : Int) (h : 0 ≤ id ∧ id < 65536) : numberAv (faL id) 14 = (id, true) := by
  rw [numberAv, faL, find_skip _ _ _ _ _ (by decide), find_skip _ _ _ _ _ (by decide), find_num]
  simp [be_size]
  exact number_be id h
theorem fa_k (id : Int) : kindOf (faL id) = 14 := by
  simp [kindOf, faL, numAv, be_size]
  exact num_be 2 14 (by omega)
theorem fa_small (id : Int) : ∀ a ∈ faL id, a.val.size ≤ maxLen := by
  intro a ha
  simp only [faL, List.mem_cons, List.not_mem_nil, or_false] at ha
  rcases ha with rfl | rfl | rfl <;> exact numAv_small _ _ _ (by omega)
theorem fa_small1 : ∀ a ∈ [numAv 0 11 2], a.val.size ≤ maxLen := by
  intro a ha
  simp only [List.mem_cons, List.not_mem_nil, or_false] at ha
  subst ha
  exact numAv_small _ _ _ (by omega)

set_option maxHeartbeats 4000000 in
theorem callFaulty_out (id : Int) (begun out : Bool) (h : id < 1 ∨ 65535 < id) (w : World) :
    Calls Try.prog 3 #[.int .i64 id, .bool begun, .bool out] w fun e w' => e = .returned (.bool true) ∧ Upd [] w w' := by
  rcases h with h | h
  · go_enter Try.func3, Try.ntmps3
    go_wp2_with fail
    refine (alive_any w).mono ?_
    rintro e w1 ⟨rfl, u1⟩
    go_wp2_with fail
    go_ret
    exact ⟨rfl, u1⟩
  · go_enter Try.func3, Try.ntmps3
    go_wp2_with fail
    refine (alive_any w).mono ?_
    rintro e w1 ⟨rfl, u1⟩
    go_wp2_with fail
    go_ret
    exact ⟨rfl, u1⟩
set_option maxHeartbeats 4000000 in
theorem callFaulty_idle (id : Int) (out : Bool) (h1 : 1 ≤ id) (h2 : id ≤ 65535) (w : World) :
    Calls Try.prog 3 #[.int .i64 id, .bool false, .bool out] w fun e w' => e = .returned (.bool true) ∧ Upd [] w w' := by
  go_enter Try.func3, Try.ntmps3
  go_wp2_with fail
  refine (new_call id 1 out w ⟨h1, h2⟩ (by omega)).mono ?_
  rintro e w1 ⟨rfl, ha, u1⟩
  go_wp2_with fail
  refine (make_any 11 [] _ w1 (AvsAt.nil _) (by decide)).mono ?_
  rintro e w2 ⟨u, own, rfl, m1, m2, m3⟩
  obtain ⟨ao2, cp2, rfl, e1, e2⟩ := m1.shape
  simp only [List.length_nil, Nat.add_zero] at m1 e1 ⊢
  have HM := Lib.hid m1
  have HA := Lib.hid (ha.upd m3)
  have HU := Lib.hid (u1.trans m3)
  have HF := Lib.hid (AvsAt.of_own (show Own w2 42 5 (.slice ao2 1 cp2) [numAv 0 11 2].length _ own from m1))
  clear m1 m2 m3 ha u1 e1 e2
  go_wp2_with fail
  refine (take_any w.heap.size (K.new id 1 out) [numAv 0 11 2] 0 0 0 0 _ _ HA.out HF.out fa_small1 (K.new_ok _ _ _) (by decide) (fun W hu => HM.out.avs_far rfl HA.out hu)).mono ?_
  rintro e w3 ⟨vx, ox, rfl, h1, h2, h3⟩
  have HU3 : Hid (Upd [] w w3) := HU.out.trans' h3 (fun x hx => .inr (by simp at hx; omega))
  rw [fa_idle] at h1 h2
  obtain ⟨ao, cap, rfl, c1, c2⟩ := h1.shape
  have HA3 := Lib.hid h2
  clear h1 h2 h3 HA HU HM HF
  simp only [List.length_nil] at *
  go_wp2_with fail
  refine (alive_any _).mono ?_
  rintro e w4 ⟨rfl, u4⟩
  have HA4 := Lib.hid (HA3.out.upd u4)
  have HU4 := Lib.hid (HU3.out.trans u4)
  clear u4
  go_wp2_with fail
  refine (state_any w.heap.size (K.new id 1 out) w4 HA4.out rfl).mono ?_
  rintro e w5 ⟨rfl, rfl⟩
  simp only [K.new]
  go_wp2_with fail
  go_ret
  exact ⟨rfl, HU4.out⟩
set_option maxHeartbeats 8000000 in
theorem callFaulty_begun (id : Int) (out : Bool) (h1 : 1 ≤ id) (h2 : id ≤ 65535) (w : World) :
    Calls Try.prog 3 #[.int .i64 id, .bool true, .bool out] w fun e w' => e = .returned (.bool true) ∧ Upd [] w w' := by
  go_enter Try.func3, Try.ntmps3
  go_wp2_with fail
  refine (new_call id 1 out w ⟨h1, h2⟩ (by omega)).mono ?_
  rintro e w0 ⟨rfl, ha, u0⟩
  go_wp2_with fail
  refine (open_any w.heap.size (K.new id 1 out) _ ha rfl).mono ?_
  rintro e w1 ⟨vo, oo, rfl, o1, o2, o3⟩
  have u1 : Upd [] w w1 := u0.trans' o3 (fun x hx => .inr (by simp at hx; omega))
  have ha := o2
  clear o1 o2 o3
  go_wp2_with fail
  refine (make_any 11 [] _ w1 (AvsAt.nil _) (by decide)).mono ?_
  rintro e w2 ⟨u, own, rfl, m1, m2, m3⟩
  obtain ⟨ao2, cp2, rfl, e1, e2⟩ := m1.shape
  simp only [List.length_nil, Nat.add_zero] at m1 e1 ⊢
  have HM := Lib.hid m1
  have HA := Lib.hid (ha.upd m3)
  have HU := Lib.hid (u1.trans m3)
  have HF := Lib.hid (AvsAt.of_own (show Own w2 42 5 (.slice ao2 1 cp2) [numAv 0 11 2].length _ own from m1))
  clear m1 m2 m3 ha u1 e1 e2
  go_wp2_with fail
  refine (take_any w.heap.size (K.new id 1 out).openC.1 [numAv 0 11 2] 0 0 0 0 _ _ HA.out HF.out fa_small1 (K.openC_ok (K.new_ok _ _ _)) (by decide) (fun W hu => HM.out.avs_far rfl HA.out hu)).mono ?_
  rintro e w3 ⟨vx, ox, rfl, h1, h2, h3⟩
  have HU3 : Hid (Upd [] w w3) := HU.out.trans' h3 (fun x hx => .inr (by simp at hx; omega))
  rw [fa_open] at h1 h2
  have HX3 := Lib.hid h1
  have HA3 := Lib.hid h2
  clear h1 h2 h3 HA HU HM HF
  obtain ⟨g, f, c, uv, hv, m1, m2, cs, cu, av, far⟩ := SaysAt.one_get HX3.out
  subst hv
  obtain ⟨aov, nv, dv, rfl⟩ := av.shape
  clear far cs
  have HS4 := Lib.hid (state_any w.heap.size _ w3 HA3.out rfl)
  have HCU := Lib.hid cu
  have HAV := Lib.hid av
  clear av
  simp only [maxLen] at m2
  go_wp2_with fail
  refine HS4.out.mono ?_
  rintro e w4 ⟨rfl, rfl⟩
  simp only [K.fin]
  go_wp2_with fail
  have n1 := number_any (faL id) (.slice aov nv dv) 1 w3 HAV.out (fa_small id)
  rw [fa_n1] at n1
  refine n1.mono ?_
  rintro e w4 ⟨rfl, u4⟩
  clear n1
  have HAV4 := Lib.hid (HAV.out.upd u4)
  have HU4 := Lib.hid (HU3.out.trans u4)
  have cu4 := (u4.cell (cell_lt' HCU.out) (by simp)).trans HCU.out
  clear u4 HAV HU3 HCU cu
  go_wp2_with fail
  have n1 := number_any (faL id) (.slice aov nv dv) 14 w4 HAV4.out (fa_small id)
  rw [fa_n14 id (by omega)] at n1
  refine n1.mono ?_
  rintro e w5 ⟨rfl, u5⟩
  clear n1
  have HAV5 := Lib.hid (HAV4.out.upd u5)
  have HU5 := Lib.hid (HU4.out.trans u5)
  have HCU5 := Lib.hid ((u5.cell (cell_lt' cu4) (by simp)).trans cu4)
  clear u5 HAV4 HU4 cu4
  go_wp2_with fail
  refine (alive_any _).mono ?_
  rintro e w6 ⟨rfl, u6⟩
  have HAV6 := Lib.hid (HAV5.out.upd u6)
  have HU6 := Lib.hid (HU5.out.trans u6)
  have cu6 := (u6.cell (cell_lt' HCU5.out) (by simp)).trans HCU5.out
  clear u6 HAV5 HU5 HCU5
  go_wp2_with fail
  refine (kind_any 0 0 0 0 (.slice aov nv dv) (faL id) _ HAV6.out (fa_small id)).mono ?_
  rintro e w7 ⟨rfl, u7⟩
  rw [fa_k]
  have HU7 := Lib.hid (HU6.out.trans u7)
  clear u7
  go_wp2_with fail
  go_ret
  exact ⟨rfl, HU7.out⟩
theorem callFaulty_walk (id : Int) (_ : (Lit.int .i64 id).wf = true) (begun out : Bool) (w : World) :
    Calls Try.prog 3 #[.int .i64 id, .bool begun, .bool out] w fun e w' => e = .returned (.bool true) ∧ Below w.heap.size w w' := by
  refine Calls.mono (R := fun e w' => e = .returned (.bool true) ∧ Upd [] w w') ?_ fun e w' ⟨he, hu⟩ => ⟨he, hu.below⟩
  by_cases h1 : id < 1 ∨ 65535 < id
  · exact callFaulty_out id begun out h1 w
  · cases begun
    · exact callFaulty_idle id out (by omega) (by omega) w
    · exact callFaulty_begun id out (by omega) (by omega) w
end Go.Proofs.Ytihedbaomingpaa
