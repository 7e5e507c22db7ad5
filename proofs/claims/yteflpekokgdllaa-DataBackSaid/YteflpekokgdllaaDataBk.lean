/- The walk of the statement DataBack. -/
import Derived.Test.YteflpekokgdllaaDataBkA
namespace Go.Proofs.Yteflpekokgdllaa
open Go.RowKit
set_option linter.unusedSimpArgs false
set_option linter.unusedVariables false

theorem kept_at {A : List Value → World → Prop} {c : List Nat} {f : Nat → Value} {k n : Nat} {b : Bool} {v : Value} {w : World} (hk : k = n) (hb : b = false) (h : A ((c.take n).map f) w) : A ((c.take k).map f ++ (if b = true then [v] else [])) w := by
  subst hk hb; simpa using h
set_option maxHeartbeats 16000000 in
set_option maxRecDepth 100000 in
theorem dataBack_any (p : Px) (f t r : Value) (more : List Av) (v : Value) (w : World) (hf : TgsAt w f p.first) (ht : TgsAt w t p.tx) (hr : TgsAt w r p.rx) (hs : ∀ l ∈ p.ls, ∀ t ∈ l, t.s.size ≤ 140737488355328)
    (hz : p.name.size ≤ 140737488355328 ∧ p.value.size ≤ 140737488355328 ∧ p.reply.size ≤ 140737488355328) (hm : AvsAt w v more) (hms : ∀ t ∈ more, t.val.size ≤ 140737488355328) :
    Calls Try.prog 3 #[p.val f t r, v] w fun e w' => e = .returned (.bool true) ∧ Upd [] w w' := by
  obtain ⟨i0, hi0, hz0, hz1, hz2⟩ := info_parts info_avp
  obtain ⟨a1, c1, rfl, -, -, -⟩ := id hf
  obtain ⟨a2, c2, rfl, -, -, -⟩ := id ht
  obtain ⟨a3, c3, rfl, -, -, -⟩ := id hr
  obtain ⟨aM, cM, rfl, hM1, hM2, -⟩ := id hm
  obtain ⟨M, hM⟩ : ∃ M, M = more.length := ⟨_, rfl⟩
  rw [← hM] at hm hM1 ⊢
  have HTG := Lib.hid (And.intro hf (And.intro ht hr))
  have HMO := Lib.hid hm
  have HML := Lib.hid hM
  have HMS := Lib.hid hms
  have HS := Lib.hid hs
  have HZ := Lib.hid hz
  have HLP := fun W (h1 : Upd [] w W) => lightP_any p _ _ _ W (hf.upd h1) (ht.upd h1) (hr.upd h1) hs hz
  have HBP := fun W (h1 : Upd [] w W) => build_any p _ _ _ W (hf.upd h1) (ht.upd h1) (hr.upd h1) hs hz
  have HLP := Lib.hid HLP
  have HBP := Lib.hid HBP
  simp only [maxLen] at hM2
  clear hf ht hr hm hms hs hM
  obtain ⟨pf, pt, pr, pk, pi, pn, pv, py⟩ := p
  simp only at HTG HLP HBP hz ⊢
  obtain ⟨n1, hn1⟩ : ∃ n, n = pf.length := ⟨_, rfl⟩
  obtain ⟨n2, hn2⟩ : ∃ n, n = pt.length := ⟨_, rfl⟩
  obtain ⟨n3, hn3⟩ : ∃ n, n = pr.length := ⟨_, rfl⟩
  rw [← hn1, ← hn2, ← hn3] at HTG HLP HBP ⊢
  obtain ⟨P, hP⟩ : ∃ P : Px, P = ⟨pf, pt, pr, pk, pi, pn, pv, py⟩ := ⟨_, rfl⟩
  have HPE := Lib.hid hP
  rw [← hP] at HLP HBP HS HZ
  have hwx : (w.alloc (.cells #[.slice a1 n1 c1, .slice a2 n2 c2, .slice a3 n3 c3, .int .i64 pk, .int .i64 pi, .string pn, .string pv, .string py] 24)).heap.size = w.heap.size + 1 := by simp
  have B1 : Hid (Blk (w.alloc (.cells #[.slice a1 n1 c1, .slice a2 n2 c2, .slice a3 n3 c3, .int .i64 pk, .int .i64 pi, .string pn, .string pv, .string py] 24)) w.heap.size 24 ((⟨pf, pt, pr, pk, pi, pn, pv, py⟩ : Px).cells (.slice a1 n1 c1) (.slice a2 n2 c2) (.slice a3 n3 c3))) := Blk.new _ _ _
  have U1 : Hid (Upd [] w (w.alloc (.cells #[.slice a1 n1 c1, .slice a2 n2 c2, .slice a3 n3 c3, .int .i64 pk, .int .i64 pi, .string pn, .string pv, .string py] 24))) := (Upd.refl _ _).alloc _
  simp only [Px.val] at HLP HBP
  have HVAL : Hid ((.agg #[.slice a1 n1 c1, .slice a2 n2 c2, .slice a3 n3 c3, .int .i64 pk, .int .i64 pi, .string pn, .string pv, .string py] : Value) = P.val (.slice a1 n1 c1) (.slice a2 n2 c2) (.slice a3 n3 c3)) := by show _ = _; rw [hP]; rfl
  clear hP hn1 hn2 hn3 hwx
  rw [HPE.out] at HLP HBP
  simp only at HLP HBP
  by_cases tl : lightP ⟨pf, pt, pr, pk, pi, pn, pv, py⟩ = true
  rotate_left
  · have TL : Hid (lightP ⟨pf, pt, pr, pk, pi, pn, pv, py⟩ = false) := by show _ = _; simpa using tl
    clear tl
    go_enter Try.func3, Try.ntmps3
    simp only [Px.val, List.append_eq, List.cons_append, List.nil_append]
    go_wp2_with fail
    refine (HLP.out _ U1.out).mono ?_
    rintro e w2 ⟨rfl, hu2⟩
    rw [TL.out]
    go_wp2_with fail
    refine (dalive_any _).mono ?_
    rintro e w3 ⟨rfl, hu3⟩
    go_wp2_with fail
    go_ret
    exact ⟨rfl, (U1.out.trans hu2).trans hu3⟩
  have TL := Lib.hid tl
  have hsum : pn.size + pv.size + py.size ≤ 3000 := by
    simp only [lightP, Bool.and_eq_true, decide_eq_true_eq] at tl
    exact tl.2.2.2
  clear tl
  by_cases ta : LightA more = true
  rotate_left
  · have TA : Hid (LightA more = false) := by show _ = _; simpa using ta
    clear ta
    go_enter Try.func3, Try.ntmps3
    simp only [Px.val, List.append_eq, List.cons_append, List.nil_append]
    go_wp2_with fail
    refine (HLP.out _ U1.out).mono ?_
    rintro e w2 ⟨rfl, hu2⟩
    rw [TL.out]
    have HU2 := Lib.hid (U1.out.trans hu2)
    go_wp2_with fail
    refine (lightA_any more _ _ (HMO.out.upd HU2.out) HMS.out).mono ?_
    rintro e w3 ⟨rfl, hu3⟩
    rw [TA.out]
    go_wp2_with fail
    refine (dalive_any _).mono ?_
    rintro e w4 ⟨rfl, hu4⟩
    go_wp2_with fail
    go_ret
    exact ⟨rfl, (HU2.out.trans hu3).trans hu4⟩
  have TA := Lib.hid ta
  have hM50 := LightA_spec ta
  rw [← HML.out] at hM50
  clear ta
  by_cases g1 : pi < 0
  · have nop := True.intro
    go_enter Try.func3, Try.ntmps3
    simp only [Px.val, List.append_eq, List.cons_append, List.nil_append]
    go_wp2_with fail
    refine (HLP.out _ U1.out).mono ?_
    rintro e w2 ⟨rfl, hu2⟩
    rw [TL.out]
    have HU2 := Lib.hid (U1.out.trans hu2)
    have HV2 := Lib.hid hu2
    clear hu2
    go_wp2_with fail
    refine (lightA_any more _ _ (HMO.out.upd HU2.out) HMS.out).mono ?_
    rintro e w3 ⟨rfl, hu3⟩
    rw [TA.out]
    have HU3 := Lib.hid (HU2.out.trans hu3)
    have hv3 := HV2.out.trans hu3
    obtain ⟨⟨x0, x1, x2, x3⟩, x4, x5, x6, x7⟩ := Px.cells_at (B1.out.upd hv3 (by simp))
    have B3 := Lib.hid (B1.out.upd hv3 (by simp))
    clear hu3 hv3
    go_wp2_with fail
    refine (dalive_any _).mono ?_
    rintro e w4 ⟨rfl, hu4⟩
    go_wp2_with fail
    go_ret
    exact ⟨rfl, HU3.out.trans hu4⟩
  by_cases g2 : 255 < pi
  · have nop := True.intro
    go_enter Try.func3, Try.ntmps3
    simp only [Px.val, List.append_eq, List.cons_append, List.nil_append]
    go_wp2_with fail
    refine (HLP.out _ U1.out).mono ?_
    rintro e w2 ⟨rfl, hu2⟩
    rw [TL.out]
    have HU2 := Lib.hid (U1.out.trans hu2)
    have HV2 := Lib.hid hu2
    clear hu2
    go_wp2_with fail
    refine (lightA_any more _ _ (HMO.out.upd HU2.out) HMS.out).mono ?_
    rintro e w3 ⟨rfl, hu3⟩
    rw [TA.out]
    have HU3 := Lib.hid (HU2.out.trans hu3)
    have hv3 := HV2.out.trans hu3
    obtain ⟨⟨x0, x1, x2, x3⟩, x4, x5, x6, x7⟩ := Px.cells_at (B1.out.upd hv3 (by simp))
    have B3 := Lib.hid (B1.out.upd hv3 (by simp))
    clear hu3 hv3
    go_wp2_with fail
    refine (dalive_any _).mono ?_
    rintro e w4 ⟨rfl, hu4⟩
    go_wp2_with fail
    go_ret
    exact ⟨rfl, HU3.out.trans hu4⟩
  by_cases g8 : pk < 2
  · have q2 : (pk == 2) = false := by simp; omega
    have q3 : (pk == 3) = false := by simp; omega
    have q4 : (pk == 4) = false := by simp; omega
    go_enter Try.func3, Try.ntmps3
    simp only [Px.val, List.append_eq, List.cons_append, List.nil_append]
    go_wp2_with fail
    refine (HLP.out _ U1.out).mono ?_
    rintro e w2 ⟨rfl, hu2⟩
    rw [TL.out]
    have HU2 := Lib.hid (U1.out.trans hu2)
    have HV2 := Lib.hid hu2
    clear hu2
    go_wp2_with fail
    refine (lightA_any more _ _ (HMO.out.upd HU2.out) HMS.out).mono ?_
    rintro e w3 ⟨rfl, hu3⟩
    rw [TA.out]
    have HU3 := Lib.hid (HU2.out.trans hu3)
    have hv3 := HV2.out.trans hu3
    obtain ⟨⟨x0, x1, x2, x3⟩, x4, x5, x6, x7⟩ := Px.cells_at (B1.out.upd hv3 (by simp))
    have B3 := Lib.hid (B1.out.upd hv3 (by simp))
    clear hu3 hv3
    go_wp2_with fail
    refine (dalive_any _).mono ?_
    rintro e w4 ⟨rfl, hu4⟩
    go_wp2_with fail
    go_ret
    exact ⟨rfl, HU3.out.trans hu4⟩
  by_cases g9 : 4 < pk
  · have q2 : (pk == 2) = false := by simp; omega
    have q3 : (pk == 3) = false := by simp; omega
    have q4 : (pk == 4) = false := by simp; omega
    go_enter Try.func3, Try.ntmps3
    simp only [Px.val, List.append_eq, List.cons_append, List.nil_append]
    go_wp2_with fail
    refine (HLP.out _ U1.out).mono ?_
    rintro e w2 ⟨rfl, hu2⟩
    rw [TL.out]
    have HU2 := Lib.hid (U1.out.trans hu2)
    have HV2 := Lib.hid hu2
    clear hu2
    go_wp2_with fail
    refine (lightA_any more _ _ (HMO.out.upd HU2.out) HMS.out).mono ?_
    rintro e w3 ⟨rfl, hu3⟩
    rw [TA.out]
    have HU3 := Lib.hid (HU2.out.trans hu3)
    have hv3 := HV2.out.trans hu3
    obtain ⟨⟨x0, x1, x2, x3⟩, x4, x5, x6, x7⟩ := Px.cells_at (B1.out.upd hv3 (by simp))
    have B3 := Lib.hid (B1.out.upd hv3 (by simp))
    clear hu3 hv3
    go_wp2_with fail
    refine (dalive_any _).mono ?_
    rintro e w4 ⟨rfl, hu4⟩
    go_wp2_with fail
    go_ret
    exact ⟨rfl, HU3.out.trans hu4⟩
  have hkk : pk = 2 ∨ pk = 3 ∨ pk = 4 := by omega
  rcases hkk with rfl | rfl | rfl
  focus
    by_cases g3 : (pv.size : Int) < 1
    · have nop := True.intro
      go_enter Try.func3, Try.ntmps3
      simp only [Px.val, List.append_eq, List.cons_append, List.nil_append]
      go_wp2_with fail
      refine (HLP.out _ U1.out).mono ?_
      rintro e w2 ⟨rfl, hu2⟩
      rw [TL.out]
      have HU2 := Lib.hid (U1.out.trans hu2)
      have HV2 := Lib.hid hu2
      clear hu2
      go_wp2_with fail
      refine (lightA_any more _ _ (HMO.out.upd HU2.out) HMS.out).mono ?_
      rintro e w3 ⟨rfl, hu3⟩
      rw [TA.out]
      have HU3 := Lib.hid (HU2.out.trans hu3)
      have hv3 := HV2.out.trans hu3
      obtain ⟨⟨x0, x1, x2, x3⟩, x4, x5, x6, x7⟩ := Px.cells_at (B1.out.upd hv3 (by simp))
      have B3 := Lib.hid (B1.out.upd hv3 (by simp))
      clear hu3 hv3
      go_wp2_with fail
      refine (dalive_any _).mono ?_
      rintro e w4 ⟨rfl, hu4⟩
      go_wp2_with fail
      go_ret
      exact ⟨rfl, HU3.out.trans hu4⟩
    by_cases g4 : (60 : Int) < pv.size
    · have nop := True.intro
      go_enter Try.func3, Try.ntmps3
      simp only [Px.val, List.append_eq, List.cons_append, List.nil_append]
      go_wp2_with fail
      refine (HLP.out _ U1.out).mono ?_
      rintro e w2 ⟨rfl, hu2⟩
      rw [TL.out]
      have HU2 := Lib.hid (U1.out.trans hu2)
      have HV2 := Lib.hid hu2
      clear hu2
      go_wp2_with fail
      refine (lightA_any more _ _ (HMO.out.upd HU2.out) HMS.out).mono ?_
      rintro e w3 ⟨rfl, hu3⟩
      rw [TA.out]
      have HU3 := Lib.hid (HU2.out.trans hu3)
      have hv3 := HV2.out.trans hu3
      obtain ⟨⟨x0, x1, x2, x3⟩, x4, x5, x6, x7⟩ := Px.cells_at (B1.out.upd hv3 (by simp))
      have B3 := Lib.hid (B1.out.upd hv3 (by simp))
      clear hu3 hv3
      go_wp2_with fail
      refine (dalive_any _).mono ?_
      rintro e w4 ⟨rfl, hu4⟩
      go_wp2_with fail
      go_ret
      exact ⟨rfl, HU3.out.trans hu4⟩
    have HGD : Hid ((⟨pf, pt, pr, 2, pi, pn, pv, py⟩ : Px).good) := ⟨by simp only; omega, .inl rfl, fun _ => by simp only; omega, fun h => by simp at h, fun h => by simp at h⟩
    go_enter Try.func3, Try.ntmps3
    simp only [Px.val, List.append_eq, List.cons_append, List.nil_append]
    go_wp2_with fail
    refine (HLP.out _ U1.out).mono ?_
    rintro e w2 ⟨rfl, hu2⟩
    rw [TL.out]
    have HU2 := Lib.hid (U1.out.trans hu2)
    have HV2 := Lib.hid hu2
    clear hu2
    go_wp2_with fail
    refine (lightA_any more _ _ (HMO.out.upd HU2.out) HMS.out).mono ?_
    rintro e w3 ⟨rfl, hu3⟩
    rw [TA.out]
    have HU3 := Lib.hid (HU2.out.trans hu3)
    have hv3 := HV2.out.trans hu3
    obtain ⟨⟨x0, x1, x2, x3⟩, x4, x5, x6, x7⟩ := Px.cells_at (B1.out.upd hv3 (by simp))
    have B3 := Lib.hid (B1.out.upd hv3 (by simp))
    clear hu3 hv3
    go_wp2_with fail
  rotate_left
  focus
    by_cases g5 : pv.size = 0
    rotate_left
    · have e0 := str_empty_f g5
      clear g5
      go_enter Try.func3, Try.ntmps3
      simp only [Px.val, List.append_eq, List.cons_append, List.nil_append]
      go_wp2_with fail
      refine (HLP.out _ U1.out).mono ?_
      rintro e w2 ⟨rfl, hu2⟩
      rw [TL.out]
      have HU2 := Lib.hid (U1.out.trans hu2)
      have HV2 := Lib.hid hu2
      clear hu2
      go_wp2_with fail
      refine (lightA_any more _ _ (HMO.out.upd HU2.out) HMS.out).mono ?_
      rintro e w3 ⟨rfl, hu3⟩
      rw [TA.out]
      have HU3 := Lib.hid (HU2.out.trans hu3)
      have hv3 := HV2.out.trans hu3
      obtain ⟨⟨x0, x1, x2, x3⟩, x4, x5, x6, x7⟩ := Px.cells_at (B1.out.upd hv3 (by simp))
      have B3 := Lib.hid (B1.out.upd hv3 (by simp))
      clear hu3 hv3
      go_wp2_with fail
      refine (dalive_any _).mono ?_
      rintro e w4 ⟨rfl, hu4⟩
      go_wp2_with fail
      go_ret
      exact ⟨rfl, HU3.out.trans hu4⟩
    have HGD : Hid ((⟨pf, pt, pr, 3, pi, pn, pv, py⟩ : Px).good) := ⟨by simp only; omega, .inr (.inl rfl), fun h => by simp at h, fun _ => g5, fun h => by simp at h⟩
    have e0 := str_empty_t g5
    clear g5
    go_enter Try.func3, Try.ntmps3
    simp only [Px.val, List.append_eq, List.cons_append, List.nil_append]
    go_wp2_with fail
    refine (HLP.out _ U1.out).mono ?_
    rintro e w2 ⟨rfl, hu2⟩
    rw [TL.out]
    have HU2 := Lib.hid (U1.out.trans hu2)
    have HV2 := Lib.hid hu2
    clear hu2
    go_wp2_with fail
    refine (lightA_any more _ _ (HMO.out.upd HU2.out) HMS.out).mono ?_
    rintro e w3 ⟨rfl, hu3⟩
    rw [TA.out]
    have HU3 := Lib.hid (HU2.out.trans hu3)
    have hv3 := HV2.out.trans hu3
    obtain ⟨⟨x0, x1, x2, x3⟩, x4, x5, x6, x7⟩ := Px.cells_at (B1.out.upd hv3 (by simp))
    have B3 := Lib.hid (B1.out.upd hv3 (by simp))
    clear hu3 hv3
    go_wp2_with fail
  rotate_left
  focus
    by_cases g6 : pi = 0
    rotate_left
    · have e6 : (pi != 0) = true := by simpa using g6
      clear g6
      go_enter Try.func3, Try.ntmps3
      simp only [Px.val, List.append_eq, List.cons_append, List.nil_append]
      go_wp2_with fail
      refine (HLP.out _ U1.out).mono ?_
      rintro e w2 ⟨rfl, hu2⟩
      rw [TL.out]
      have HU2 := Lib.hid (U1.out.trans hu2)
      have HV2 := Lib.hid hu2
      clear hu2
      go_wp2_with fail
      refine (lightA_any more _ _ (HMO.out.upd HU2.out) HMS.out).mono ?_
      rintro e w3 ⟨rfl, hu3⟩
      rw [TA.out]
      have HU3 := Lib.hid (HU2.out.trans hu3)
      have hv3 := HV2.out.trans hu3
      obtain ⟨⟨x0, x1, x2, x3⟩, x4, x5, x6, x7⟩ := Px.cells_at (B1.out.upd hv3 (by simp))
      have B3 := Lib.hid (B1.out.upd hv3 (by simp))
      clear hu3 hv3
      go_wp2_with fail
      refine (dalive_any _).mono ?_
      rintro e w4 ⟨rfl, hu4⟩
      go_wp2_with fail
      go_ret
      exact ⟨rfl, HU3.out.trans hu4⟩
    subst g6
    have hadd := fun W => run_string_add_sum (P := Try.prog) W pn pv (by omega)
    have hadd2 := fun W => run_string_add_sum (P := Try.prog) W (pn ++ pv) py (by rw [ByteArray.size_append]; omega)
    have hSz : (pn ++ pv ++ py).size = pn.size + pv.size + py.size := by rw [ByteArray.size_append, ByteArray.size_append]
    obtain ⟨S, hS⟩ : ∃ S, S = pn ++ pv ++ py := ⟨_, rfl⟩
    rw [← hS] at hadd2 hSz
    by_cases g7 : S.size = 0
    rotate_left
    · have e0 := str_empty_f g7
      clear g7 hS
      go_enter Try.func3, Try.ntmps3
      simp only [Px.val, List.append_eq, List.cons_append, List.nil_append]
      go_wp2_with fail
      refine (HLP.out _ U1.out).mono ?_
      rintro e w2 ⟨rfl, hu2⟩
      rw [TL.out]
      have HU2 := Lib.hid (U1.out.trans hu2)
      have HV2 := Lib.hid hu2
      clear hu2
      go_wp2_with fail
      refine (lightA_any more _ _ (HMO.out.upd HU2.out) HMS.out).mono ?_
      rintro e w3 ⟨rfl, hu3⟩
      rw [TA.out]
      have HU3 := Lib.hid (HU2.out.trans hu3)
      have hv3 := HV2.out.trans hu3
      obtain ⟨⟨x0, x1, x2, x3⟩, x4, x5, x6, x7⟩ := Px.cells_at (B1.out.upd hv3 (by simp))
      have B3 := Lib.hid (B1.out.upd hv3 (by simp))
      clear hu3 hv3
      go_wp2_with fail
      refine (dalive_any _).mono ?_
      rintro e w4 ⟨rfl, hu4⟩
      go_wp2_with fail
      go_ret
      exact ⟨rfl, HU3.out.trans hu4⟩
    have HGD : Hid ((⟨pf, pt, pr, 4, 0, pn, pv, py⟩ : Px).good) := ⟨by simp only; omega, .inr (.inr rfl), fun h => by simp at h, fun h => by simp at h, fun _ => ⟨rfl, by simp only; omega, by simp only; omega, by simp only; omega⟩⟩
    have e0 := str_empty_t g7
    clear g7 hS
    go_enter Try.func3, Try.ntmps3
    simp only [Px.val, List.append_eq, List.cons_append, List.nil_append]
    go_wp2_with fail
    refine (HLP.out _ U1.out).mono ?_
    rintro e w2 ⟨rfl, hu2⟩
    rw [TL.out]
    have HU2 := Lib.hid (U1.out.trans hu2)
    have HV2 := Lib.hid hu2
    clear hu2
    go_wp2_with fail
    refine (lightA_any more _ _ (HMO.out.upd HU2.out) HMS.out).mono ?_
    rintro e w3 ⟨rfl, hu3⟩
    rw [TA.out]
    have HU3 := Lib.hid (HU2.out.trans hu3)
    have hv3 := HV2.out.trans hu3
    obtain ⟨⟨x0, x1, x2, x3⟩, x4, x5, x6, x7⟩ := Px.cells_at (B1.out.upd hv3 (by simp))
    have B3 := Lib.hid (B1.out.upd hv3 (by simp))
    clear hu3 hv3
    go_wp2_with fail
  all_goals
    clear x0 x1 x2 x3 x4 x5 x6 x7 HV2
    have HG : Hid P.good := by show P.good; rw [HPE.out]; exact HGD.out
    clear HGD
    go_loopg [5] M (fun m s5 wr => ∃ k : Nat, k + m = M ∧ s5 = .int .i64 k ∧ (∀ (j : Nat) (x : Av), j < k → more[j]? = some x → x.vendor ≠ 0) ∧ Upd [] w3 wr)
    case atStart => exact ⟨0, by omega, rfl, fun j x hj => absurd hj (Nat.not_lt_zero _), Upd.refl _ _⟩
    case round =>
      obtain ⟨k, hk, rfl, hvn, hu⟩ := hrel
      have HVN := Lib.hid hvn
      have HUR := Lib.hid hu
      have HUW : Hid (Upd [] w wr) := HU3.out.trans hu
      have hkM : k ≤ M := by omega
      clear hvn
      by_cases tk : k < M
      · obtain ⟨x, hx⟩ : ∃ x, more[k]? = some x := ⟨_, List.getElem?_eq_getElem (by have := HML.out; omega)⟩
        obtain ⟨aM', cM', e0, -, -, h3⟩ := HMO.out.upd HUW.out
        injection e0 with e0 e1 e2
        subst e0 e2
        clear e1
        obtain ⟨q, rfl, c0, c1, c2, c3, c4⟩ := h3 k x hx
        have HX := Lib.hid hx
        clear h3 hx hu
        by_cases tv : x.vendor = 0
        · go_wp2_with fail
          refine (dalive_any _).mono ?_
          rintro e wz ⟨rfl, huz⟩
          go_wp2_with fail
          go_ret
          exact ⟨rfl, HUW.out.trans huz⟩
        · have tv' : (x.vendor == 0) = false := by simpa using tv
          have TV := Lib.hid tv
          clear tv
          go_wp2_with fail
          go_roundg (M - (k + 1))
          case rel =>
            refine ⟨k + 1, by omega, by go_num, fun j y hj hy => ?_, HUR.out⟩
            by_cases hjk : j = k
            · subst hjk
              have := HX.out
              rw [this] at hy
              simp only [Option.some.injEq] at hy
              rw [← hy]
              exact TV.out
            · exact HVN.out j y (by omega) hy
          case measure => omega
      have HVA : Hid (∀ x ∈ more, x.vendor ≠ 0) := fun x hx => by
        obtain ⟨j, hj⟩ := List.getElem?_of_mem hx
        have hjl := (List.getElem?_eq_some_iff.1 hj).1
        have := HML.out
        exact HVN.out j x (by omega) hj
      obtain ⟨⟨x0, x1, x2, x3⟩, x4, x5, x6, x7⟩ := Px.cells_at (B3.out.upd hu (by simp))
      have HBW := Lib.hid (B3.out.upd hu (by simp))
      clear hu HVN
      go_wp2_with fail
      refine (HBP.out _ HUW.out).mono ?_
      rintro e w6 ⟨v6, rfl, ho6, hu6⟩
      rw [← HPE.out] at ho6
      obtain ⟨own6, ho6, hi6⟩ := ho6
      obtain ⟨ao6, cap6, rfl, hc6, hm6⟩ := ho6.shape
      obtain ⟨B, hB⟩ : ∃ B, B = P.build := ⟨_, rfl⟩
      have hsm := build_small P
      rw [← hB] at ho6 hc6 hsm ⊢
      obtain ⟨nB, hnB⟩ : ∃ n, n = B.length := ⟨_, rfl⟩
      rw [← hnB] at ho6 hc6 ⊢
      have HUW6 := Lib.hid (HUW.out.trans hu6)
      have HB6 := Lib.hid (HBW.out.upd hu6 (by simp))
      have HO6 := Lib.hid ho6
      have HNB := Lib.hid hnB
      have HBB := Lib.hid hB
      have HSM := Lib.hid hsm
      have HI6 := Lib.hid hi6
      simp only [maxLen] at hm6
      clear ho6 hi6 hu6 hB hnB hsm x0 x1 x2 x3 x4 x5 x6 x7 HBW
      by_cases tn : nB = 0
      · subst tn
        go_wp2_with fail
        refine (dalive_any _).mono ?_
        rintro e wz ⟨rfl, huz⟩
        go_wp2_with fail
        go_ret
        exact ⟨rfl, HUW6.out.trans huz⟩
      have hne : P.build ≠ [] := fun h => tn (by rw [HNB.out, HBB.out, h]; rfl)
      have HPK := Lib.hid (px_back HG.out hne)
      have HP2 := Lib.hid (px_twice hne)
      have hnB8 : nB ≤ 8 := by
        have e1 := HNB.out
        rw [HBB.out, (build_all hne).2] at e1
        rw [e1]
        simp only [Px.all, Px.link, Px.auth, List.length_append, List.length_cons, List.length_nil]
        split <;> split <;> (try split) <;> simp
      clear hne
      have HRM : Hid (Rd w6 5 (.slice aM M cM) M (avCells more)) := by
        show Rd _ _ _ _ _
        have h := (HMO.out.upd HUW6.out).rd
        rw [← HML.out] at h
        exact h
      have HRB0 : Hid (Rd w6 5 (.slice ao6 nB cap6) nB (avCells B)) := by
        show Rd _ _ _ _ _
        have h := HO6.out
        rw [HNB.out] at h
        have h2 := (AvsAt.of_own h).rd
        rw [← HNB.out] at h2
        exact h2
      go_wp2_with (first
        | (at_builtin; refine wpList_append_Rd _ rfl (.const (.slice none 0 0)) (.tmp 110) 25 rfl 30 i0 _ 5 40 Try.underlying25 hi0 hz0 hz1 hz2 rfl (by decide) _ 0 [] [] (by simp [Act.eval]) (Own.nil _ _ _) _ M (avCells more) (by simp [Act.eval]) HRM.out (by simp only [maxLen]; omega) (by omega) ?_; intro aoA capA wA ownA hoA hinA huA; have HOA := Lib.hid hoA; have HINA := Lib.hid hinA; have HUA := Lib.hid huA; have HRB := Lib.hid (HRB0.out.upd huA); clear hoA hinA huA)
        | (at_builtin; refine wpList_append_Rd _ rfl (.tmp 111) (.tmp 112) 25 rfl 30 i0 _ 5 40 Try.underlying25 hi0 hz0 hz1 hz2 rfl (by decide) _ (0 + M) _ _ (by simp [Act.eval]) HOA.out _ nB (avCells B) (by simp [Act.eval]) HRB.out (by simp only [maxLen]; omega) (by omega) ?_; intro aoC capC wC ownC hoC hinC huC; have HOC := Lib.hid hoC; have HUC := Lib.hid huC; clear hoC hinC huC))
      have HAC : Hid (AvsAt wC (.slice aoC (M + nB) capC) (more ++ B)) := by
        show AvsAt _ _ _
        have h := HOC.out
        rw [List.nil_append, ← avCells_append] at h
        have hn : 0 + M + nB = (more ++ B).length := by rw [List.length_append, ← HML.out, ← HNB.out]; omega
        rw [hn] at h
        rw [show M + nB = (more ++ B).length by omega]
        exact AvsAt.of_own h
      have HUC6 : Hid (Upd [] w6 wC) := HUA.out.trans' HUC.out (fun y hy => .inr ((HINA.out y hy).elim (fun h => by simp at h) id))
      have HTL := Lib.hid (tells_more HVA.out B)
      have HPQ : Hid (parsed (more ++ B) = P ∧ linked (more ++ B) = true ∧ (claimed (more ++ B)).2 = true) := by
        refine ⟨?_, ?_, ?_⟩
        · rw [HTL.out.parsed, HBB.out]; exact HPK.out.1.1
        · rw [HTL.out.linked, HBB.out]; exact HPK.out.1.2
        · rw [HTL.out.claimed, HBB.out]; exact HPK.out.2
      refine (parse_any (more ++ B) _ _ HAC.out (fun t ht => by rcases List.mem_append.1 ht with h | h; exact HMS.out t h; have := HSM.out t h; omega)).mono ?_
      rintro e w7 ⟨⟨f7, t7, r7, o1, o2, o3, rfl, hf7, ht7, hr7, -, -, -, -⟩, hu7⟩
      rw [HPQ.out.1, HPQ.out.2.1, HPQ.out.2.2]
      rw [HPQ.out.1] at hf7 ht7 hr7
      obtain ⟨b1, d1, rfl, -, -⟩ := hf7.shape
      obtain ⟨b2, d2, rfl, -, -⟩ := ht7.shape
      obtain ⟨b3, d3, rfl, -, -⟩ := hr7.shape
      obtain ⟨m1, hm1⟩ : ∃ m, m = P.first.length := ⟨_, rfl⟩
      obtain ⟨m2, hm2⟩ : ∃ m, m = P.tx.length := ⟨_, rfl⟩
      obtain ⟨m3, hm3⟩ : ∃ m, m = P.rx.length := ⟨_, rfl⟩
      have HT7 := Lib.hid (And.intro (TgsAt.of_own hf7) (And.intro (TgsAt.of_own ht7) (TgsAt.of_own hr7)))
      rw [← hm1, ← hm2, ← hm3] at HT7 ⊢
      have HU7 : Hid (Upd [] w w7) := HUW6.out.trans (HUC6.out.trans hu7)
      have HV7 : Hid (Upd [] w6 w7) := HUC6.out.trans hu7
      clear hf7 ht7 hr7 hu7 hm1 hm2 hm3
      simp only [Px.val]
      have UX : Upd [] w7 (w7.alloc (.cells (P.cells (.slice b1 m1 d1) (.slice b2 m2 d2) (.slice b3 m3 d3)) 24)) := (Upd.refl _ _).alloc _
      have BQ := Blk.new w7 24 (P.cells (.slice b1 m1 d1) (.slice b2 m2 d2) (.slice b3 m3 d3))
      have HQ8 : Hid (∃ gq wq, gq = w7.heap.size ∧ wq = (w7.alloc (.cells (P.cells (.slice b1 m1 d1) (.slice b2 m2 d2) (.slice b3 m3 d3)) 24)) ∧ Blk wq gq 24 (P.cells (.slice b1 m1 d1) (.slice b2 m2 d2) (.slice b3 m3 d3)) ∧ Upd [] w6 wq ∧ Upd [] w wq ∧ TgsAt wq (.slice b1 m1 d1) P.first ∧ TgsAt wq (.slice b2 m2 d2) P.tx ∧ TgsAt wq (.slice b3 m3 d3) P.rx) := ⟨_, _, rfl, rfl, BQ, HV7.out.trans UX, HU7.out.trans UX, HT7.out.1.upd UX, HT7.out.2.1.upd UX, HT7.out.2.2.upd UX⟩
      clear UX BQ
      go_wp2_with fail
      obtain ⟨gq, wq, hgq, hwq, hbq, huq, huwq, htq1, htq2, htq3⟩ := HQ8.out
      simp only [Px.cells] at hwq
      rw [← hgq, ← hwq]
      have HBQ := Lib.hid hbq
      have HUQ := Lib.hid huwq
      have HTQ := Lib.hid (And.intro htq1 (And.intro htq2 htq3))
      have HBP1 := Lib.hid (HB6.out.upd huq (by simp))
      have HOQ := Lib.hid (HO6.out.upd huq (by simp))
      have hgqs : gq < wq.heap.size := hbq.lt
      clear HQ8 hgq hwq hbq huq huwq htq1 htq2 htq3
      obtain ⟨gB, offB, capB, hform, -, -, -, -⟩ := HOQ.out.form (by omega)
      injection hform with e1 e2 e3
      subst e1 e3
      clear e2
      obtain ⟨bc, hbc⟩ : ∃ bc, bc = textAv 26 (encOpts P.first) := ⟨_, rfl⟩
      have HP2' : Hid (linked (B ++ [bc]) = false ∧ claimed (B ++ [bc]) = claimed B ∧ B[0]? = some bc) := by show _ ∧ _; rw [hbc, HBB.out]; exact HP2.out
      obtain ⟨s26, hs26⟩ : ∃ s, s = encOpts P.first := ⟨_, rfl⟩
      have HBC : Hid (bc = ⟨true, false, 0, 26, s26⟩) := by show _ = _; rw [hbc, hs26]; rfl
      have HCB : Hid (∀ V, Upd [] wq V → V.cell? ⟨gB, offB, none⟩ = some (.bool true) ∧ V.cell? ⟨gB, offB + 1, none⟩ = some (.bool false) ∧ V.cell? ⟨gB, offB + 2, none⟩ = some (.int .i64 0) ∧ V.cell? ⟨gB, offB + 3, none⟩ = some (.int .i64 26) ∧ V.cell? ⟨gB, offB + 4, none⟩ = some (.string s26)) := by
        intro V hV
        have h := (HOQ.out.upd hV (by simp))
        rw [HNB.out] at h
        obtain ⟨ao', cap', e0, -, -, h3⟩ := AvsAt.of_own h
        injection e0 with e0 e1 e2
        obtain ⟨q', e, k0, k1, k2, k3, k4⟩ := h3 0 bc HP2'.out.2.2
        rw [← e0] at e
        injection e with e
        subst e
        rw [HBC.out] at k0 k1 k2 k3 k4
        rw [add_plain'] at k0 k1 k2 k3 k4
        simp only [Nat.zero_mul, Nat.add_zero] at k0 k1 k2 k3 k4
        exact ⟨k0, k1, k2, k3, k4⟩
      have HRQ : Hid (Rd wq 5 (.slice (some ⟨gB, offB, none⟩) nB cap6) nB (avCells B)) := by
        show Rd _ _ _ _ _
        have h := HOQ.out
        rw [HNB.out] at h
        have h2 := (AvsAt.of_own h).rd
        rw [← HNB.out] at h2
        exact h2
      clear hbc hs26
      obtain ⟨X, hX⟩ : ∃ X, X = parsed (B ++ [bc]) := ⟨_, rfl⟩
      have HX1 : Hid (X.first = []) := by
        show _ = _
        rw [hX, parsed_eq, HP2'.out.1, if_neg (by simp)]
        exact (claimPx_nil _).1
      have HX := Lib.hid hX
      have HCL : Hid ((claimed (B ++ [bc])).2 = true) := by show _ = _; rw [HP2'.out.2.1, HBB.out]; exact HPK.out.2
      clear hX
      obtain ⟨xf, xt, xr, xk, xi, xn, xv, xy⟩ := X
      simp only at HX1
      have HSZ : Hid (∀ t ∈ B ++ [bc], t.val.size ≤ 140737488355328) := fun t ht => by
        have h1 : t ∈ B := by
          rcases List.mem_append.1 ht with h | h
          · exact h
          · rw [List.mem_singleton.1 h]
            exact List.mem_of_getElem? HP2'.out.2.2
        exact Nat.le_trans (HSM.out t h1) (by decide)
      have HPA : Hid (∀ (vv : Value) (V : World), AvsAt V vv (B ++ [bc]) → Calls Try.prog 11 #[vv] V fun e w' => e = .returned (.tuple #[.agg #[.slice none 0 0, .slice none 0 0, .slice none 0 0, .int .i64 xk, .int .i64 xi, .string xn, .string xv, .string xy], .bool false, .bool true]) ∧ Upd [] V w') := by
        intro vv V hav
        refine (parse_any (B ++ [bc]) vv V hav HSZ.out).mono ?_
        rintro e wz ⟨⟨fz, tz, rz, o1, o2, o3, rfl, -, -, -, -, -, -, hnil⟩, huz⟩
        obtain ⟨rfl, rfl, rfl⟩ := hnil HP2'.out.1
        rw [← HX.out, HP2'.out.1, HCL.out]
        exact ⟨rfl, huz⟩
      have hnB0 : (0 : Int) < nB := by omega
      have hwq0 : Upd [] wq wq.drew := (Upd.refl _ _).drew
      refine wp_region_res3 [some (.slice (some ⟨gB, offB, none⟩) nB cap6), none, some (.slice (some ⟨gB, offB, none⟩) nB cap6), some (.pointer (some ⟨gB, offB, none⟩)), some (.agg #[.bool true, .bool false, .int .i64 0, .int .i64 26, .string s26]), none, none, some (.tuple #[.agg #[.slice none 0 0, .slice none 0 0, .slice none 0 0, .int .i64 xk, .int .i64 xi, .string xn, .string xv, .string xy], .bool false, .bool true]), some (.tuple #[.agg #[.slice none 0 0, .slice none 0 0, .slice none 0 0, .int .i64 xk, .int .i64 xi, .string xn, .string xv, .string xy], .bool false, .bool true]), some (.agg #[.slice none 0 0, .slice none 0 0, .slice none 0 0, .int .i64 xk, .int .i64 xi, .string xn, .string xv, .string xy]), some (.bool false), some (.bool true), none, none, some (.bool false), some (.bool true)] [1, 6, 7] [5, 6] [12, 13] (bkA wq nB B bc) (bkB wq bc) (bkC wq #[.slice none 0 0, .slice none 0 0, .slice none 0 0, .int .i64 xk, .int .i64 xi, .string xn, .string xv, .string xy]) [[(0, 0), (0, 1), (0, 1)], [(0, 0), (0, 1), (0, 1)], [(0, 1), (0, 0), (0, 1)], [(0, 1), (0, 0), (0, 1)], [(0, 1), (0, 0), (0, 1)], [(0, 1), (0, 0), (0, 1)], [(1, 1), (1, 1), (0, 1)], [(2, 2), (2, 2), (0, 1)], [(3, 3), (2, 2), (0, 1)], [(3, 3), (2, 2), (0, 1)], [(3, 3), (2, 2), (0, 2)], [(3, 3), (2, 2), (0, 2)], [(0, 3), (0, 2), (0, 0)], [(3, 3), (2, 2), (1, 1)], [(3, 3), (2, 2), (2, 2)], [(3, 3), (2, 2), (2, 2)]] (by kernel_rfl) (by kernel_rfl) (by kernel_rfl) (by kernel_rfl) (by kernel_rfl) (by kernel_rfl) (hwq0) (hwq0) (hwq0) ?_ ?_
      · refine StepsR.cons ?_ (StepsR.cons ?_ (StepsR.cons ?_ (StepsR.cons ?_ (StepsR.cons ?_ (StepsR.cons ?_ (StepsR.cons ?_ (StepsR.cons ?_ (StepsR.cons ?_ (StepsR.cons ?_ (StepsR.cons ?_ (StepsR.cons ?_ (StepsR.cons ?_ (StepsR.cons ?_ (StepsR.cons ?_ (StepsR.cons ?_ StepsR.nil)))))))))))))))
        · refine res_is _ rfl ⟨_, rfl⟩ (by kernel_rfl) rfl ?_
          intro a W ks hR hF hD
          obtain ⟨⟨l0, u0, A0⟩, ⟨l1, u1, A1⟩, ⟨l2, u2, A2⟩, -⟩ := hR
          have k0 := Nat.le_antisymm u0 l0
          rw [k0] at A0
          have e6 : a.tmps[6]?.getD undef = _ := (ev a 6).symm.trans (hF 6 (by kernel_rfl))
          clear hF hD
          go_simp
        · refine res_run rfl ⟨_, rfl⟩ ?_
          intro a W ks hR hF hD
          obtain ⟨⟨l0, u0, A0⟩, ⟨l1, u1, A1⟩, ⟨l2, u2, A2⟩, -⟩ := hR
          have k0 := Nat.le_antisymm u0 l0
          rw [k0] at A0
          have e119 : a.tmps[119]?.getD undef = .slice (some ⟨gB, offB, none⟩) nB cap6 := (ev a 119).symm.trans (hD _ (Array.mem_of_getElem? (i := 0) rfl) rfl)
          clear hF hD
          have hu : Upd [] wq W := A0
          have hrd : Rd W 5 (a.tmps[119]?.getD undef) nB (avCells B) := by rw [e119]; exact HRQ.out.upd hu
          obtain ⟨ao1, cap1, w1, own1, r1, r2, r3, r4⟩ := run_append_Rd (P := Try.prog) W 25 25 30 i0 _ 5 40 Try.underlying25 hi0 hz0 hz1 hz2 rfl (by decide) (.slice none 0 0) 0 [] [] (Own.nil _ _ _) _ nB _ hrd (by simp only [maxLen]; omega) (by omega)
          refine ⟨_, w1, ?_, trivial, next_post k0 (by kernel_rfl) ⟨hu.trans r4, ao1, cap1, own1, rfl, r2, fun y hy => (r3 y hy).elim (fun h => by simp at h) (fun h => Nat.le_trans hu.size h)⟩, kept_post (by kernel_rfl) (bkB_keep A1 r4), kept_post (by kernel_rfl) (bkC_keep A2 r4), trivial⟩
          simp only [execOp, resolve, invoke, builtin, Sem.run_bind, Sem.run_pure, Result.andThen_ok, List.map_toArray, List.map_cons, List.map_nil, ev, show a.eval (.const (.slice none 0 0)) = Value.slice none 0 0 from rfl, r1]
        · refine res_is _ rfl ⟨_, rfl⟩ (by kernel_rfl) rfl ?_
          intro a W ks hR hF hD
          obtain ⟨⟨l0, u0, A0⟩, ⟨l1, u1, A1⟩, ⟨l2, u2, A2⟩, -⟩ := hR
          have k1 := Nat.le_antisymm u1 l1
          rw [k1] at A1
          have e6 : a.tmps[6]?.getD undef = _ := (ev a 6).symm.trans (hF 6 (by kernel_rfl))
          clear hF hD
          go_simp
        · refine res_is _ rfl ⟨_, rfl⟩ (by kernel_rfl) rfl ?_
          intro a W ks hR hF hD
          obtain ⟨⟨l0, u0, A0⟩, ⟨l1, u1, A1⟩, ⟨l2, u2, A2⟩, -⟩ := hR
          have k1 := Nat.le_antisymm u1 l1
          rw [k1] at A1
          have e121 : a.tmps[121]?.getD undef = .slice (some ⟨gB, offB, none⟩) nB cap6 := (ev a 121).symm.trans (hD _ (Array.mem_of_getElem? (i := 0) rfl) rfl)
          clear hF hD
          go_simp
        · refine res_is _ rfl ⟨_, rfl⟩ (by kernel_rfl) rfl ?_
          intro a W ks hR hF hD
          obtain ⟨⟨l0, u0, A0⟩, ⟨l1, u1, A1⟩, ⟨l2, u2, A2⟩, -⟩ := hR
          have k1 := Nat.le_antisymm u1 l1
          rw [k1] at A1
          have e122 : a.tmps[122]?.getD undef = .pointer (some ⟨gB, offB, none⟩) := (ev a 122).symm.trans (hD _ (Array.mem_of_getElem? (i := 0) rfl) rfl)
          clear hF hD
          have hu := bkA_upd A0
          obtain ⟨d0, d1, d2, d3, d4⟩ := HCB.out W hu
          go_simp
        · refine res_run rfl ⟨_, rfl⟩ ?_
          intro a W ks hR hF hD
          obtain ⟨⟨l0, u0, A0⟩, ⟨l1, u1, A1⟩, ⟨l2, u2, A2⟩, -⟩ := hR
          have k1 := Nat.le_antisymm u1 l1
          rw [k1] at A1
          have e123 : a.tmps[123]?.getD undef = .agg #[.bool true, .bool false, .int .i64 0, .int .i64 26, .string s26] := (ev a 123).symm.trans (hD _ (Array.mem_of_getElem? (i := 0) rfl) rfl)
          clear hF hD
          have hu := bkA_upd A0
          have U5 : Upd [] W (W.alloc (.cells #[.bool true, .bool false, .int .i64 0, .int .i64 26, .string s26] 30)) := (Upd.refl _ _).alloc _
          refine ⟨.slice (some ⟨W.heap.size, 0, none⟩) 1 1, W.alloc (.cells #[.bool true, .bool false, .int .i64 0, .int .i64 26, .string s26] 30), by go_simp, trivial, kept_post (by kernel_rfl) (bkA_keep A0 U5), next_post k1 (by kernel_rfl) ⟨hu.trans U5, ?_⟩, kept_post (by kernel_rfl) (bkC_keep A2 U5), trivial⟩
          rw [HBC.out]
          exact avs1 W ⟨true, false, 0, 26, s26⟩
        · refine res_run rfl ⟨_, rfl⟩ ?_
          intro a W ks hR hF hD
          obtain ⟨⟨l0, u0, A0⟩, ⟨l1, u1, A1⟩, ⟨l2, u2, A2⟩, -⟩ := hR
          have k0 := Nat.le_antisymm u0 l0
          rw [k0] at A0
          have k1 := Nat.le_antisymm u1 l1
          rw [k1] at A1
          clear hF hD
          obtain ⟨hu, ao1, cap1, own1, hv, ho, hf⟩ := A0
          obtain ⟨-, hrd⟩ := A1
          have e120 : a.tmps[120]?.getD undef = _ := (ev a 120).symm.trans hv
          have hrd : Rd W 5 (a.tmps[124]?.getD undef) 1 (avCells [bc]) := by rw [← ev]; exact hrd
          obtain ⟨ao2, cap2, w2, own2, r1, r2, r3, r4⟩ := run_append_Rd (P := Try.prog) W 25 25 30 i0 _ 5 40 Try.underlying25 hi0 hz0 hz1 hz2 rfl (by decide) _ (0 + nB) _ _ ho _ 1 _ hrd (by simp only [maxLen]; omega) (by omega)
          have hu2 : Upd [] wq w2 := hu.trans' r4 (fun y hy => .inr (hf y hy))
          have hn2 : 0 + nB + 1 = (B ++ [bc]).length := by rw [List.length_append, ← HNB.out]; simp
          have hav : AvsAt w2 (.slice ao2 (B ++ [bc]).length cap2) (B ++ [bc]) := by (have h := r2; rw [List.nil_append, ← avCells_append, hn2] at h; exact AvsAt.of_own h)
          refine ⟨.slice ao2 (0 + nB + 1) cap2, w2, ?_, trivial, next_post k0 (by kernel_rfl) ⟨hu2, ao2, cap2, by rw [hn2], hav⟩, next_post k1 (by kernel_rfl) hu2, kept_post (by kernel_rfl) (bkC_grow A2 ho hf r4), trivial⟩
          simp only [execOp, resolve, invoke, builtin, Sem.run_bind, Sem.run_pure, Result.andThen_ok, List.map_toArray, List.map_cons, List.map_nil, ev, e120, r1]
        · refine res_call rfl ⟨_, rfl⟩ ?_
          intro a W ks hR hF hD
          obtain ⟨⟨l0, u0, A0⟩, ⟨l1, u1, A1⟩, ⟨l2, u2, A2⟩, -⟩ := hR
          have k0 := Nat.le_antisymm u0 l0
          rw [k0] at A0
          have k1 := Nat.le_antisymm u1 l1
          rw [k1] at A1
          clear hF hD
          obtain ⟨hu, ao2, cap2, hv, hav⟩ := A0
          obtain ⟨vv, hvv⟩ : ∃ vv, vv = Value.slice ao2 (B ++ [bc]).length cap2 := ⟨_, rfl⟩
          rw [← hvv] at hv hav
          clear hvv
          have e125 : a.tmps[125]?.getD undef = _ := (ev a 125).symm.trans hv
          refine ⟨_, _, by (go_simp; first | done | rfl | exact ⟨rfl, rfl⟩), ?_⟩
          refine (HPA.out _ _ hav).mono ?_
          rintro e wz ⟨rfl, huz⟩
          exact ⟨_, rfl, rfl, next_post k0 (by kernel_rfl) (hu.trans huz), kept_at k1 (by kernel_rfl) (hu.trans huz), kept_post (by kernel_rfl) (bkC_keep A2 huz), trivial⟩
        · refine res_is _ rfl ⟨_, rfl⟩ (by kernel_rfl) rfl ?_
          intro a W ks hR hF hD
          obtain ⟨⟨l0, u0, A0⟩, ⟨l1, u1, A1⟩, ⟨l2, u2, A2⟩, -⟩ := hR
          have k0 := Nat.le_antisymm u0 l0
          rw [k0] at A0
          have k1 := Nat.le_antisymm u1 l1
          rw [k1] at A1
          have e126 : a.tmps[126]?.getD undef = .tuple #[.agg #[.slice none 0 0, .slice none 0 0, .slice none 0 0, .int .i64 xk, .int .i64 xi, .string xn, .string xv, .string xy], .bool false, .bool true] := (ev a 126).symm.trans (hD _ (Array.mem_of_getElem? (i := 0) rfl) rfl)
          clear hF hD
          go_simp
        · refine res_is _ rfl ⟨_, rfl⟩ (by kernel_rfl) rfl ?_
          intro a W ks hR hF hD
          obtain ⟨⟨l0, u0, A0⟩, ⟨l1, u1, A1⟩, ⟨l2, u2, A2⟩, -⟩ := hR
          have k0 := Nat.le_antisymm u0 l0
          rw [k0] at A0
          have k1 := Nat.le_antisymm u1 l1
          rw [k1] at A1
          have e118 : a.tmps[118]?.getD undef = .tuple #[.agg #[.slice none 0 0, .slice none 0 0, .slice none 0 0, .int .i64 xk, .int .i64 xi, .string xn, .string xv, .string xy], .bool false, .bool true] := (ev a 118).symm.trans (hD _ (Array.mem_of_getElem? (i := 0) rfl) rfl)
          clear hF hD
          go_simp
        · refine res_is _ rfl ⟨_, rfl⟩ (by kernel_rfl) rfl ?_
          intro a W ks hR hF hD
          obtain ⟨⟨l0, u0, A0⟩, ⟨l1, u1, A1⟩, ⟨l2, u2, A2⟩, -⟩ := hR
          have k0 := Nat.le_antisymm u0 l0
          rw [k0] at A0
          have k1 := Nat.le_antisymm u1 l1
          rw [k1] at A1
          have e118 : a.tmps[118]?.getD undef = .tuple #[.agg #[.slice none 0 0, .slice none 0 0, .slice none 0 0, .int .i64 xk, .int .i64 xi, .string xn, .string xv, .string xy], .bool false, .bool true] := (ev a 118).symm.trans (hD _ (Array.mem_of_getElem? (i := 0) rfl) rfl)
          clear hF hD
          go_simp
        · refine res_is _ rfl ⟨_, rfl⟩ (by kernel_rfl) rfl ?_
          intro a W ks hR hF hD
          obtain ⟨⟨l0, u0, A0⟩, ⟨l1, u1, A1⟩, ⟨l2, u2, A2⟩, -⟩ := hR
          have k0 := Nat.le_antisymm u0 l0
          rw [k0] at A0
          have k1 := Nat.le_antisymm u1 l1
          rw [k1] at A1
          have e118 : a.tmps[118]?.getD undef = .tuple #[.agg #[.slice none 0 0, .slice none 0 0, .slice none 0 0, .int .i64 xk, .int .i64 xi, .string xn, .string xv, .string xy], .bool false, .bool true] := (ev a 118).symm.trans (hD _ (Array.mem_of_getElem? (i := 0) rfl) rfl)
          clear hF hD
          go_simp
        · refine res_run rfl ⟨_, rfl⟩ ?_
          intro a W ks hR hF hD
          obtain ⟨⟨l0, u0, A0⟩, ⟨l1, u1, A1⟩, ⟨l2, u2, A2⟩, -⟩ := hR
          have k2 := Nat.le_antisymm u2 l2
          rw [k2] at A2
          clear hF hD
          have hu := bkA_upd A0
          have hu3 : Upd [] wq W := A2
          have U5 : Upd [] W (W.alloc (.cells (Px.zero.cells (.slice none 0 0) (.slice none 0 0) (.slice none 0 0)) 24)) := (Upd.refl _ _).alloc _
          exact ⟨.pointer (some ⟨W.heap.size, 0, none⟩), W.alloc (.cells (Px.zero.cells (.slice none 0 0) (.slice none 0 0) (.slice none 0 0)) 24), by (go_simp; first | done | rfl), trivial, kept_post (by kernel_rfl) (bkA_keep A0 U5), kept_post (by kernel_rfl) (bkB_keep A1 U5), next_post k2 (by kernel_rfl) ⟨hu3.trans U5, W.heap.size, hu3.size, rfl, Blk.new _ _ _⟩, trivial⟩
        · refine res_set rfl rfl trivial ?_
          intro a W ks hR hF hD
          obtain ⟨⟨l0, u0, A0⟩, ⟨l1, u1, A1⟩, ⟨l2, u2, A2⟩, -⟩ := hR
          have k0 := Nat.le_antisymm u0 l0
          rw [k0] at A0
          have k1 := Nat.le_antisymm u1 l1
          rw [k1] at A1
          have k2 := Nat.le_antisymm u2 l2
          rw [k2] at A2
          have e127 : a.tmps[127]?.getD undef = .agg #[.slice none 0 0, .slice none 0 0, .slice none 0 0, .int .i64 xk, .int .i64 xi, .string xn, .string xv, .string xy] := (ev a 127).symm.trans (hD _ (Array.mem_of_getElem? (i := 1) rfl) rfl)
          clear hF hD
          obtain ⟨hu, g, hg1, hg2, hg3⟩ := A2
          have hua : Upd [] wq W := A0
          have hub : Upd [] wq W := A1
          have e10 : a.tmps[10]?.getD undef = _ := (ev a 10).symm.trans hg2
          obtain ⟨f0, f1, f2, f3, f4, f5, f6, f7⟩ := hg3.froz
          obtain ⟨⟨d0, d1, d2, d3⟩, d4, d5, d6, d7⟩ := Px.cells_at hg3
          simp only [Px.zero] at d3 d4 d5 d6 d7
          have UU : Upd [] wq ((((((((W.setCell ⟨g, 0, none⟩ (.slice none 0 0)).setCell ⟨g, 1, none⟩ (.slice none 0 0)).setCell ⟨g, 2, none⟩ (.slice none 0 0)).setCell ⟨g, 3, none⟩ (.int .i64 xk)).setCell ⟨g, 4, none⟩ (.int .i64 xi)).setCell ⟨g, 5, none⟩ (.string xn)).setCell ⟨g, 6, none⟩ (.string xv)).setCell ⟨g, 7, none⟩ (.string xy)) := (((((((hu.setCell _ (.inr hg1)).setCell _ (.inr hg1)).setCell _ (.inr hg1)).setCell _ (.inr hg1)).setCell _ (.inr hg1)).setCell _ (.inr hg1)).setCell _ (.inr hg1)).setCell _ (.inr hg1)
          have BB : Blk ((((((((W.setCell ⟨g, 0, none⟩ (.slice none 0 0)).setCell ⟨g, 1, none⟩ (.slice none 0 0)).setCell ⟨g, 2, none⟩ (.slice none 0 0)).setCell ⟨g, 3, none⟩ (.int .i64 xk)).setCell ⟨g, 4, none⟩ (.int .i64 xi)).setCell ⟨g, 5, none⟩ (.string xn)).setCell ⟨g, 6, none⟩ (.string xv)).setCell ⟨g, 7, none⟩ (.string xy)) g 24 #[.slice none 0 0, .slice none 0 0, .slice none 0 0, .int .i64 xk, .int .i64 xi, .string xn, .string xv, .string xy] := Blk.of_eq ((((((((hg3.set_ 0 _).set_ 1 _).set_ 2 _).set_ 3 _).set_ 4 _).set_ 5 _).set_ 6 _).set_ 7 _) (by simp [Px.cells])
          exact ⟨((((((((W.setCell ⟨g, 0, none⟩ (.slice none 0 0)).setCell ⟨g, 1, none⟩ (.slice none 0 0)).setCell ⟨g, 2, none⟩ (.slice none 0 0)).setCell ⟨g, 3, none⟩ (.int .i64 xk)).setCell ⟨g, 4, none⟩ (.int .i64 xi)).setCell ⟨g, 5, none⟩ (.string xn)).setCell ⟨g, 6, none⟩ (.string xv)).setCell ⟨g, 7, none⟩ (.string xy)), by (go_simp; first | done | rfl | exact ⟨rfl, rfl⟩), kept_at k0 (by kernel_rfl) UU, kept_at k1 (by kernel_rfl) UU, next_post k2 (by kernel_rfl) ⟨UU, g, hg1, hg2, BB⟩, trivial⟩
        · refine res_is _ rfl ⟨_, rfl⟩ (by kernel_rfl) rfl ?_
          intro a W ks hR hF hD
          obtain ⟨⟨l0, u0, A0⟩, ⟨l1, u1, A1⟩, ⟨l2, u2, A2⟩, -⟩ := hR
          have k0 := Nat.le_antisymm u0 l0
          rw [k0] at A0
          have k1 := Nat.le_antisymm u1 l1
          rw [k1] at A1
          have k2 := Nat.le_antisymm u2 l2
          rw [k2] at A2
          have e128 : a.tmps[128]?.getD undef = .bool false := (ev a 128).symm.trans (hD _ (Array.mem_of_getElem? (i := 0) rfl) rfl)
          clear hF hD
          go_simp
        · refine res_is _ rfl ⟨_, rfl⟩ (by kernel_rfl) rfl ?_
          intro a W ks hR hF hD
          obtain ⟨⟨l0, u0, A0⟩, ⟨l1, u1, A1⟩, ⟨l2, u2, A2⟩, -⟩ := hR
          have k0 := Nat.le_antisymm u0 l0
          rw [k0] at A0
          have k1 := Nat.le_antisymm u1 l1
          rw [k1] at A1
          have k2 := Nat.le_antisymm u2 l2
          rw [k2] at A2
          have e129 : a.tmps[129]?.getD undef = .bool true := (ev a 129).symm.trans (hD _ (Array.mem_of_getElem? (i := 0) rfl) rfl)
          clear hF hD
          go_simp
      intro vals W hv hA1 hA2 hA3
      have v0 : vals 0 = .slice (some ⟨gB, offB, none⟩) nB cap6 := hv 0 (by decide)
      have v2 : vals 2 = .slice (some ⟨gB, offB, none⟩) nB cap6 := hv 2 (by decide)
      have v3 : vals 3 = .pointer (some ⟨gB, offB, none⟩) := hv 3 (by decide)
      have v4 : vals 4 = .agg #[.bool true, .bool false, .int .i64 0, .int .i64 26, .string s26] := hv 4 (by decide)
      have v7 : vals 7 = .tuple #[.agg #[.slice none 0 0, .slice none 0 0, .slice none 0 0, .int .i64 xk, .int .i64 xi, .string xn, .string xv, .string xy], .bool false, .bool true] := hv 7 (by decide)
      have v8 : vals 8 = .tuple #[.agg #[.slice none 0 0, .slice none 0 0, .slice none 0 0, .int .i64 xk, .int .i64 xi, .string xn, .string xv, .string xy], .bool false, .bool true] := hv 8 (by decide)
      have v9 : vals 9 = .agg #[.slice none 0 0, .slice none 0 0, .slice none 0 0, .int .i64 xk, .int .i64 xi, .string xn, .string xv, .string xy] := hv 9 (by decide)
      have v10 : vals 10 = .bool false := hv 10 (by decide)
      have v11 : vals 11 = .bool true := hv 11 (by decide)
      have v14 : vals 14 = .bool false := hv 14 (by decide)
      have v15 : vals 15 = .bool true := hv 15 (by decide)
      clear hv
      obtain ⟨hu, g, hg1, hv12, hg3⟩ := hA3
      have v12 : vals 12 = .pointer (some ⟨g, 0, none⟩) := hv12
      simp only [putAll, Act.put, Nat.zero_add, Nat.reduceAdd, v12, v0, v2, v3, v4, v7, v8, v9, v10, v11, v14, v15, List.setIfInBounds_toArray, List.set_cons_zero, List.set_cons_succ]
      clear v0 v2 v3 v4 v7 v8 v9 v10 v11 v14 v15
      clear hv12 v12 hA1 hA2
      have HU13 := Lib.hid hu
      have HB13 := Lib.hid (HBP1.out.upd hu (by simp))
      have HQ13 := Lib.hid (HBQ.out.upd hu (by simp))
      have HG13 := Lib.hid hg3
      have HUW13 : Hid (Upd [] w W) := HUQ.out.trans hu
      have HGD2 := Lib.hid (HPE.out ▸ HG.out)
      clear hu hg3
      subst HX1
      go_wp2_with fail
      refine (dalive_any _).mono ?_
      rintro e w14 ⟨rfl, hu14⟩
      obtain ⟨⟨x0, x1, x2, x3⟩, x4, x5, x6, x7⟩ := Px.cells_at (HB13.out.upd hu14 (by simp))
      obtain ⟨⟨y0, y1, y2, y3⟩, y4, y5, y6, y7⟩ := Px.cells_at (HQ13.out.upd hu14 (by simp))
      have z0 := (HG13.out.upd hu14 (by simp)).cell 0
      simp at z0
      have HU14 := Lib.hid (HUW13.out.trans hu14)
      have HV14 := Lib.hid (HU13.out.trans hu14)
      have HG14 := Lib.hid (HG13.out.upd hu14 (by simp))
      rw [HPE.out] at y3 y4 y5 y6 y7
      clear hu14
      go_wp2_with fail
      have hsame := fun V (hv : Upd [] w V) (hq : Upd [] wq V) => dsame_any P _ _ _ _ _ _ V (HTG.out.1.upd hv |> fun h => (by rw [HPE.out]; exact h : TgsAt V (.slice a1 n1 c1) P.first)) (HTG.out.2.1.upd hv |> fun h => (by rw [HPE.out]; exact h : TgsAt V (.slice a2 n2 c2) P.tx)) (HTG.out.2.2.upd hv |> fun h => (by rw [HPE.out]; exact h : TgsAt V (.slice a3 n3 c3) P.rx)) (HTQ.out.1.upd hq) (HTQ.out.2.1.upd hq) (HTQ.out.2.2.upd hq)
      rw [HPE.out] at hsame
      refine (hsame _ HU14.out HV14.out).mono ?_
      rintro e w15 ⟨rfl, hu15⟩
      have z0 := (HG14.out.upd hu15 (by simp)).cell 0
      simp at z0
      go_wp2_with fail
      go_ret
      exact ⟨rfl, HU14.out.trans hu15⟩
end Go.Proofs.Yteflpekokgdllaa
