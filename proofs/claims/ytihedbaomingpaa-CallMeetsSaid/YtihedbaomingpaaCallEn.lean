/- The walk of chapter 22's CallEnds. -/
import Derived.Test.YtihedbaomingpaaCallFa
namespace Go.Proofs.Ytihedbaomingpaa
open Go.RowKit
set_option linter.unusedSimpArgs false
set_option linter.unusedVariables false
set_option maxRecDepth 100000

def enL (c i : Int) : List Av := [numAv 0 14 2, numAv 1 c 2, numAv 14 i 2]
theorem en_k (c i : Int) : kindOf (enL c i) = 14 := by
  simp [kindOf, enL, numAv, be_size]
  exact num_be 2 14 (by omega)
theorem en_check (c i : Int) : checkOf (enL c i) = 0 := by
  have h1 : needsOf 14 = some [1, 14] := by decide +kernel
  have h2 : avpLen 1 = -1 := by decide +kernel
  have h3 : avpLen 14 = 2 := by decide +kernel
  have hb : badOf [numAv 1 c 2, numAv 14 i 2] = 0 := by simp [badOf, wrongAv, numAv, h2, h3, be_size]
  have hn : needOf (enL c i) [1, 14] = 0 := by simp [needOf, enL, find_num, find_skip]
  have : checkOf (enL c i) = match needsOf (kindOf (enL c i)) with
    | none => 40
    | some ns => if badOf [numAv 1 c 2, numAv 14 i 2] = 0 then needOf (enL c i) ns else badOf [numAv 1 c 2, numAv 14 i 2] := rfl
  rw [this, en_k, h1]
  simp only [hb, hn, if_true]
theorem en_small (c i : Int) : ∀ a ∈ enL c i, a.val.size ≤ maxLen := by
  intro a ha
  simp only [enL, List.mem_cons, List.not_mem_nil, or_false] at ha
  rcases ha with rfl | rfl | rfl <;> exact numAv_small _ _ _ (by omega)
theorem en_take (id : Int) (out : Bool) (c i : Int) : (K.new id 1 out).openC.1.take (enL c i) = (((K.new id 1 out).fin 2).1, []) := by
  simp only [K.take, en_k, en_check, K.new, K.openC]
  simp [K.fin]
theorem en_close (id : Int) (out : Bool) (c : Int) : (K.new id 1 out).openC.1.close c = (((K.new id 1 out).fin 2).1, [(0, enL c id)]) := by
  simp [K.close, K.new, K.openC, K.fin, K.say, K.own, enL]
theorem en_dead (id : Int) (out : Bool) (c : Int) : ((K.new id 1 out).fin 2).1.close c = (((K.new id 1 out).fin 2).1, []) := by
  simp [K.close, K.new, K.fin]
theorem en_deado (id : Int) (out : Bool) : ((K.new id 1 out).fin 2).1.openC = (((K.new id 1 out).fin 2).1, []) := by
  simp [K.openC, K.new, K.fin]
theorem en_n1 (c i : Int) : numberAv (enL c i) 1 = (c % 65536, true) := by
  rw [numberAv, enL, find_skip _ _ _ _ _ (by decide), find_num]
  simp [be_size, valueB]
  have := num_be_aux c 2 2 (by omega)
  simpa using this

theorem callEnds_out (id code : Int) (out hangs : Bool) (h : id < 1 ∨ 65535 < id) (w : World) :
    Calls Try.prog 4 #[.int .i64 id, .int .i64 code, .bool out, .bool hangs] w fun e w' => e = .returned (.bool true) ∧ Upd [] w w' := by
  rcases h with h | h
  · go_enter Try.func4, Try.ntmps4
    go_wp2_with fail
    refine (alive_any w).mono ?_
    rintro e w1 ⟨rfl, u1⟩
    go_wp2_with fail
    go_ret
    exact ⟨rfl, u1⟩
  · go_enter Try.func4, Try.ntmps4
    go_wp2_with fail
    refine (alive_any w).mono ?_
    rintro e w1 ⟨rfl, u1⟩
    go_wp2_with fail
    go_ret
    exact ⟨rfl, u1⟩
set_option maxHeartbeats 8000000 in
theorem callEnds_hangs (id code : Int) (out : Bool) (h1 : 1 ≤ id) (h2 : id ≤ 65535) (w : World) :
    Calls Try.prog 4 #[.int .i64 id, .int .i64 code, .bool out, .bool true] w fun e w' => e = .returned (.bool true) ∧ Upd [] w w' := by
  go_enter Try.func4, Try.ntmps4
  go_wp2_with fail
  refine (new_call id 1 out w ⟨h1, h2⟩ (by omega)).mono ?_
  rintro e w0 ⟨rfl, ha, u0⟩
  go_wp2_with fail
  refine (open_any w.heap.size (K.new id 1 out) _ ha rfl).mono ?_
  rintro e w1 ⟨vo, oo, rfl, o1, o2, o3⟩
  have HU1 : Hid (Upd [] w w1) := u0.trans' o3 (fun x hx => .inr (by simp at hx; omega))
  have HA1 := Lib.hid o2
  clear o1 o2 o3 ha u0
  go_wp2_with fail
  refine (num_ok 1 code 2 (by omega) _).mono ?_
  rintro e w2 ⟨rfl, u2⟩
  simp only [Av.agg, numAv]
  go_wp2_with fail
  refine (num_ok 14 3 2 (by omega) _).mono ?_
  rintro e w3 ⟨rfl, u3⟩
  simp only [Av.agg, numAv]
  have HU3 := Lib.hid ((HU1.out.trans u2).trans u3)
  have HA3 := Lib.hid ((HA1.out.upd u2).upd u3)
  clear u2 u3 HU1 HA1
  generalize hb1 : be 2 code = b1
  generalize hb2 : be 2 3 = b2
  have HB := Lib.hid (And.intro hb1 hb2)
  clear hb1 hb2
  go_wp2_with fail
  have hav := avs_two w3 ⟨true, false, 0, 1, b1⟩ ⟨true, false, 0, 14, b2⟩
  have hua : Upd [] w3 (w3.alloc (.cells #[.bool true, .bool false, .int .i64 0, .int .i64 1, .string b1, .bool true, .bool false, .int .i64 0, .int .i64 14, .string b2] 42)) := (Upd.refl [] _).alloc _
  refine (make_any 14 _ _ _ hav (by show 2 < _; decide)).mono ?_
  rintro e w4 ⟨u, own, rfl, m1, m2, m3⟩
  obtain ⟨ao2, cp2, rfl, e1, e2⟩ := m1.shape
  simp only [List.length_cons, List.length_nil, Nat.zero_add, Nat.reduceAdd] at m1 e1 ⊢
  have hl : ([numAv 0 14 2, ⟨true, false, 0, 1, b1⟩, ⟨true, false, 0, 14, b2⟩] : List Av) = enL code 3 := by
    obtain ⟨q1, q2⟩ := HB.out
    subst q1 q2
    rfl
  rw [hl] at m1
  have HM := Lib.hid m1
  have HA4 := Lib.hid (HA3.out.upd (hua.trans m3))
  have HU4 := Lib.hid (HU3.out.trans (hua.trans m3))
  have HF := Lib.hid (AvsAt.of_own (show Own w4 42 5 (.slice ao2 3 cp2) (enL code 3).length _ own from m1))
  clear m1 m2 m3 e1 e2 hav hua hl HU3 HA3
  go_wp2_with fail
  refine (take_any w.heap.size (K.new id 1 out).openC.1 (enL code 3) 0 0 0 0 _ _ HA4.out HF.out (en_small _ _) (K.openC_ok (K.new_ok _ _ _)) (by show _ ≤ _; simp [enL]) (fun W hu => HM.out.avs_far rfl HA4.out hu)).mono ?_
  rintro e w5 ⟨vx, ox, rfl, h1, h2, h3⟩
  have HU5 : Hid (Upd [] w w5) := HU4.out.trans' h3 (fun x hx => .inr (by simp at hx; omega))
  rw [en_take] at h2
  have HA5 := Lib.hid h2
  clear h1 h2 h3 HA4 HU4 HM HF HB
  go_wp2_with fail
  refine (alive_any _).mono ?_
  rintro e w6 ⟨rfl, u6⟩
  have HA6 := Lib.hid (HA5.out.upd u6)
  have HU6 := Lib.hid (HU5.out.trans u6)
  clear u6 HA5 HU5
  go_wp2_with fail
  refine (state_any w.heap.size _ w6 HA6.out rfl).mono ?_
  rintro e w7 ⟨rfl, rfl⟩
  simp only [K.fin]
  go_wp2_with fail
  refine (close_any w.heap.size _ code w6 HA6.out rfl).mono ?_
  rintro e w7 ⟨vy, oy, rfl, h1, h2, h3⟩
  rw [en_dead] at h1
  obtain ⟨ao, cap, rfl, c1, c2⟩ := h1.shape
  have HU7 : Hid (Upd [] w w7) := HU6.out.trans' h3 (fun x hx => .inr (by simp at hx; omega))
  clear h1 h2 h3
  simp only [List.length_nil] at *
  go_wp2_with fail
  go_ret
  exact ⟨rfl, HU7.out⟩
set_option maxHeartbeats 8000000 in
theorem callEnds_closes (id code : Int) (out : Bool) (h1 : 1 ≤ id) (h2 : id ≤ 65535) (w : World) :
    Calls Try.prog 4 #[.int .i64 id, .int .i64 code, .bool out, .bool false] w fun e w' => e = .returned (.bool true) ∧ Upd [] w w' := by
  go_enter Try.func4, Try.ntmps4
  go_wp2_with fail
  refine (new_call id 1 out w ⟨h1, h2⟩ (by omega)).mono ?_
  rintro e w0 ⟨rfl, ha, u0⟩
  go_wp2_with fail
  refine (open_any w.heap.size (K.new id 1 out) _ ha rfl).mono ?_
  rintro e w1 ⟨vo, oo, rfl, o1, o2, o3⟩
  have HU1 : Hid (Upd [] w w1) := u0.trans' o3 (fun x hx => .inr (by simp at hx; omega))
  have HA1 := Lib.hid o2
  clear o1 o2 o3 ha u0
  go_wp2_with fail
  refine (close_any w.heap.size _ code _ HA1.out rfl).mono ?_
  rintro e w2 ⟨vx, ox, rfl, h1, h2, h3⟩
  rw [en_close] at h1 h2
  have HU3 : Hid (Upd [] w w2) := HU1.out.trans' h3 (fun x hx => .inr (by simp at hx; omega))
  have HX3 := Lib.hid h1
  have HA3 := Lib.hid h2
  clear h1 h2 h3 HA1 HU1
  obtain ⟨g, f, c, uv, hv, m1, m2, cs, cu, av, far⟩ := SaysAt.one_get HX3.out
  subst hv
  obtain ⟨aov, nv, dv, rfl⟩ := av.shape
  clear far cs
  have HCU := Lib.hid cu
  have HAV := Lib.hid av
  clear av
  simp only [maxLen] at m2
  have hua : Upd [] w2 (w2.alloc (.cells #[.int .i64 0, .int .i64 0, .int .i64 0, .int .i64 0, .slice aov nv dv] 33)) := (Upd.refl [] _).alloc _
  have hbm := Blk.new w2 33 #[.int .i64 0, .int .i64 0, .int .i64 0, .int .i64 0, .slice aov nv dv]
  have cu2 := (hua.cell (cell_lt' cu) (by simp)).trans cu
  have HAV2 := Lib.hid (HAV.out.upd hua)
  have HA4 := Lib.hid (HA3.out.upd hua)
  have HU4 := Lib.hid (HU3.out.trans hua)
  have HBM := Lib.hid hbm
  clear hua hbm HAV HA3 HU3 HCU
  go_wp2_with fail
  have n1 := number_any (enL code id) (.slice aov nv dv) 1 _ HAV2.out (en_small code id)
  rw [en_n1] at n1
  refine n1.mono ?_
  rintro e w3 ⟨rfl, u3⟩
  clear n1
  have HAV3 := Lib.hid (HAV2.out.upd u3)
  have HA5 := Lib.hid (HA4.out.upd u3)
  have HU5 := Lib.hid (HU4.out.trans u3)
  have HB5 := Lib.hid (HBM.out.upd u3 (by simp))
  clear u3 HAV2 HA4 HU4 HBM cu cu2
  go_wp2_with fail
  refine (alive_any _).mono ?_
  rintro e w4 ⟨rfl, u4⟩
  have HAV4 := Lib.hid (HAV3.out.upd u4)
  have HA6 := Lib.hid (HA5.out.upd u4)
  have HU6 := Lib.hid (HU5.out.trans u4)
  have HB6 := Lib.hid (HB5.out.upd u4 (by simp))
  clear u4 HAV3 HA5 HU5 HB5
  have c0 := HB6.out.cell 0
  have c1 := HB6.out.cell 1
  have c2 := HB6.out.cell 2
  have c3 := HB6.out.cell 3
  have c4 := HB6.out.cell 4
  simp at c0 c1 c2 c3 c4
  go_wp2_with fail
  refine (check_any 0 0 0 0 (.slice aov nv dv) (enL code id) _ HAV4.out (en_small code id)).mono ?_
  rintro e w5 ⟨rfl, u5⟩
  rw [en_check]
  have HAV5 := Lib.hid (HAV4.out.upd u5)
  have HA7 := Lib.hid (HA6.out.upd u5)
  have HU7 := Lib.hid (HU6.out.trans u5)
  have HB7 := Lib.hid (HB6.out.upd u5 (by simp))
  clear u5 HAV4 HA6 HU6 HB6 c0 c1 c2 c3 c4
  have c0 := HB7.out.cell 0
  have c1 := HB7.out.cell 1
  have c2 := HB7.out.cell 2
  have c3 := HB7.out.cell 3
  have c4 := HB7.out.cell 4
  simp at c0 c1 c2 c3 c4
  go_wp2_with fail
  refine (kind_any 0 0 0 0 (.slice aov nv dv) (enL code id) _ HAV5.out (en_small code id)).mono ?_
  rintro e w6 ⟨rfl, u6⟩
  rw [en_k]
  have HAV6 := Lib.hid (HAV5.out.upd u6)
  have HA8 := Lib.hid (HA7.out.upd u6)
  have HU8 := Lib.hid (HU7.out.trans u6)
  have HB8 := Lib.hid (HB7.out.upd u6 (by simp))
  clear u6 HAV5 HA7 HU7 HB7 c0 c1 c2 c3 c4
  have ea := i64_and65535 code
  go_wp2_with fail
  refine (state_any w.heap.size _ w6 HA8.out rfl).mono ?_
  rintro e w7 ⟨rfl, rfl⟩
  simp only [K.fin]
  go_wp2_with fail
  refine (close_any w.heap.size _ code w6 HA8.out rfl).mono ?_
  rintro e w7 ⟨vy, oy, rfl, h1, h2, h3⟩
  rw [en_dead] at h1 h2
  obtain ⟨ao, cap, rfl, c1, c2⟩ := h1.shape
  have HU9 : Hid (Upd [] w w7) := HU8.out.trans' h3 (fun x hx => .inr (by simp at hx; omega))
  have HA9 := Lib.hid h2
  clear h1 h2 h3
  simp only [List.length_nil] at *
  go_wp2_with fail
  refine (open_any w.heap.size _ w7 HA9.out rfl).mono ?_
  rintro e w8 ⟨vy, oy, rfl, h1, h2, h3⟩
  rw [en_deado] at h1
  obtain ⟨ao2, cap2, rfl, c3, c4⟩ := h1.shape
  have HU10 : Hid (Upd [] w w8) := HU9.out.trans' h3 (fun x hx => .inr (by simp at hx; omega))
  clear h1 h2 h3
  simp only [List.length_nil] at *
  go_wp2_with fail
  go_ret
  exact ⟨rfl, HU10.out⟩
theorem callEnds_walk (id : Int) (_ : (Lit.int .i64 id).wf = true) (code : Int) (_ : (Lit.int .i64 code).wf = true) (out hangs : Bool) (w : World) :
    Calls Try.prog 4 #[.int .i64 id, .int .i64 code, .bool out, .bool hangs] w fun e w' => e = .returned (.bool true) ∧ Below w.heap.size w w' := by
  refine Calls.mono (R := fun e w' => e = .returned (.bool true) ∧ Upd [] w w') ?_ fun e w' ⟨he, hu⟩ => ⟨he, hu.below⟩
  by_cases h1 : id < 1 ∨ 65535 < id
  · exact callEnds_out id code out hangs h1 w
  · cases hangs
    · exact callEnds_closes id code out (by omega) (by omega) w
    · exact callEnds_hangs id code out (by omega) (by omega) w
end Go.Proofs.Ytihedbaomingpaa
