/- The walk of the statement OptsLists. -/
import Derived.Test.YtcibpkhbdmnopaaOptP
import Derived.Test.YtcibpkhbdmnopaaOptsIn
namespace Go.Proofs.Ytcibpkhbdmnopaa
open Go.RowKit
set_option linter.unusedSimpArgs false
set_option linter.unusedVariables false

theorem optsSelf (l : List Tg) (v u : Value) (w : World) (hl : TgsAt w v l) (hm : TgsAt w u l) :
    Calls Try.prog 12 #[v, u] w fun e w' => e = .returned (.bool true) ∧ Upd [] w w' :=
  (same_any l l v u w hl hm).mono fun e w' ⟨he, hu⟩ => ⟨by rw [he]; simp, hu⟩

set_option maxHeartbeats 4000000 in
set_option maxRecDepth 100000 in
theorem optsLists_any (l m : List Tg) (v u : Value) (w : World) (hl : TgsAt w v l) (hm : TgsAt w u m) (hls : ∀ t ∈ l, t.s.size ≤ 140737488355328) (hms : ∀ t ∈ m, t.s.size ≤ 140737488355328) :
    Calls Try.prog 4 #[v, u] w fun e w' => e = .returned (.bool true) ∧ Upd [] w w' := by
  obtain ⟨i0, hi, hz0, hz1, hz2⟩ := info_parts info_opt
  obtain ⟨ao, cap, rfl, hc1, hc2, -⟩ := id hl
  obtain ⟨bo, cbp, rfl, gc1, gc2, -⟩ := id hm
  have HL := Lib.hid hl
  have HM := Lib.hid hm
  have HLS := Lib.hid hls
  have HMS := Lib.hid hms
  clear hl hm hls hms
  by_cases t1 : LightO l = true
  rotate_left
  · have T1 : Hid (LightO l = false) := by show _ = _; simpa using t1
    clear t1
    go_enter Try.func4, Try.ntmps4
    go_wp2_with fail
    refine (lightO_any l _ _ HL.out HLS.out).mono ?_
    rintro e w1 ⟨rfl, hu1⟩
    rw [T1.out]
    go_wp2_with fail
    refine (alive_any _).mono ?_
    rintro e w2 ⟨rfl, hu2⟩
    go_wp2_with fail
    go_ret
    exact ⟨rfl, hu1.trans hu2⟩
  have n1 := (LightO_spec t1).1
  have T1 := Lib.hid t1
  by_cases t2 : LightO m = true
  rotate_left
  · have T2 : Hid (LightO m = false) := by show _ = _; simpa using t2
    clear t1 t2
    go_enter Try.func4, Try.ntmps4
    go_wp2_with fail
    refine (lightO_any l _ _ HL.out HLS.out).mono ?_
    rintro e w1 ⟨rfl, hu1⟩
    rw [T1.out]
    go_wp2_with fail
    refine (lightO_any m _ _ (HM.out.upd hu1) HMS.out).mono ?_
    rintro e w2 ⟨rfl, hu2⟩
    rw [T2.out]
    go_wp2_with fail
    refine (alive_any _).mono ?_
    rintro e w3 ⟨rfl, hu3⟩
    go_wp2_with fail
    go_ret
    exact ⟨rfl, (hu1.trans hu2).trans hu3⟩
  have n2 := (LightO_spec t2).1
  have T2 := Lib.hid t2
  clear t1 t2
  obtain ⟨s, e0, hp⟩ : ∃ b e, putOpts l = (b, e) := ⟨_, _, rfl⟩
  obtain ⟨t, g0, hq⟩ : ∃ b e, putOpts m = (b, e) := ⟨_, _, rfl⟩
  have HP := Lib.hid hp
  have HQ := Lib.hid hq
  have HLEN : Hid (l.length ≤ 50 ∧ m.length ≤ 50) := ⟨n1, n2⟩
  have hs := putOpts_size l
  have ht := putOpts_size m
  rw [hp] at hs
  rw [hq] at ht
  simp only at hs ht
  clear hp hq
  by_cases he : e0 = 0
  rotate_left
  · have q1 : (e0 != 0) = true := by simpa using he
    clear he
    go_enter Try.func4, Try.ntmps4
    go_wp2_with fail
    refine (lightO_any l _ _ HL.out HLS.out).mono ?_
    rintro e w1 ⟨rfl, hu1⟩
    rw [T1.out]
    have HU1 := Lib.hid hu1
    clear hu1
    go_wp2_with fail
    refine (lightO_any m _ _ (HM.out.upd HU1.out) HMS.out).mono ?_
    rintro e w2 ⟨rfl, hu2⟩
    rw [T2.out]
    have HU2 := Lib.hid (HU1.out.trans hu2)
    clear hu2 HU1
    go_wp2_with fail
    refine (putOptions_any l _ _ (HL.out.upd HU2.out) HLS.out).mono ?_
    rintro e w3 ⟨rfl, hu3⟩
    rw [HP.out]
    have HU3 := Lib.hid (HU2.out.trans hu3)
    clear hu3 HU2
    go_wp2_with fail
    refine (putOptions_any m _ _ (HM.out.upd HU3.out) HMS.out).mono ?_
    rintro e w4 ⟨rfl, hu4⟩
    rw [HQ.out]
    have HU4 := Lib.hid (HU3.out.trans hu4)
    clear hu4 HU3
    go_wp2_with fail
    refine (alive_any _).mono ?_
    rintro e w5 ⟨rfl, hu5⟩
    go_wp2_with fail
    go_ret
    exact ⟨rfl, HU4.out.trans hu5⟩
  subst he
  by_cases hg : g0 = 0
  rotate_left
  · have q1 : (g0 != 0) = true := by simpa using hg
    clear hg
    go_enter Try.func4, Try.ntmps4
    go_wp2_with fail
    refine (lightO_any l _ _ HL.out HLS.out).mono ?_
    rintro e w1 ⟨rfl, hu1⟩
    rw [T1.out]
    have HU1 := Lib.hid hu1
    clear hu1
    go_wp2_with fail
    refine (lightO_any m _ _ (HM.out.upd HU1.out) HMS.out).mono ?_
    rintro e w2 ⟨rfl, hu2⟩
    rw [T2.out]
    have HU2 := Lib.hid (HU1.out.trans hu2)
    clear hu2 HU1
    go_wp2_with fail
    refine (putOptions_any l _ _ (HL.out.upd HU2.out) HLS.out).mono ?_
    rintro e w3 ⟨rfl, hu3⟩
    rw [HP.out]
    have HU3 := Lib.hid (HU2.out.trans hu3)
    clear hu3 HU2
    go_wp2_with fail
    refine (putOptions_any m _ _ (HM.out.upd HU3.out) HMS.out).mono ?_
    rintro e w4 ⟨rfl, hu4⟩
    rw [HQ.out]
    have HU4 := Lib.hid (HU3.out.trans hu4)
    clear hu4 HU3
    go_wp2_with fail
    refine (alive_any _).mono ?_
    rintro e w5 ⟨rfl, hu5⟩
    go_wp2_with fail
    go_ret
    exact ⟨rfl, HU4.out.trans hu5⟩
  subst hg
  obtain ⟨h1, h2, h3⟩ := putOpts_ok HP.out
  obtain ⟨h4, h5, h6⟩ := putOpts_ok HQ.out
  obtain ⟨S, hS⟩ : ∃ S, S = s ++ t := ⟨_, rfl⟩
  have hadd := fun W => run_string_add_sum (P := Try.prog) W s t (by omega)
  have HG : Hid (getOpts S = if 30 < l.length + m.length then ([], 2) else (l ++ m, 0)) := by
    show _ = _
    rw [hS, h1, h4, ← encOpts_append, getOpts_all (l ++ m) (fun x hx => by
      rcases List.mem_append.1 hx with hx | hx
      · exact h3 x hx
      · exact h6 x hx), List.length_append]
  have HSZ : Hid (S.size ≤ 140737488355328) := by show _ ≤ _; rw [hS, ByteArray.size_append]; omega
  rw [← hS] at hadd
  clear h1 h2 h3 h4 h5 h6 hS
  by_cases t3 : 30 < l.length + m.length
  · have t3' : (30 : Int) < (l.length : Int) + (m.length : Int) := by omega
    have HG2 : Hid (getOpts S = ([], 2)) := by show _ = _; rw [HG.out, if_pos t3]
    clear HG
    go_enter Try.func4, Try.ntmps4
    go_wp2_with fail
    refine (lightO_any l _ _ HL.out HLS.out).mono ?_
    rintro e w1 ⟨rfl, hu1⟩
    rw [T1.out]
    have HU1 := Lib.hid hu1
    clear hu1
    go_wp2_with fail
    refine (lightO_any m _ _ (HM.out.upd HU1.out) HMS.out).mono ?_
    rintro e w2 ⟨rfl, hu2⟩
    rw [T2.out]
    have HU2 := Lib.hid (HU1.out.trans hu2)
    clear hu2 HU1
    go_wp2_with fail
    refine (putOptions_any l _ _ (HL.out.upd HU2.out) HLS.out).mono ?_
    rintro e w3 ⟨rfl, hu3⟩
    rw [HP.out]
    have HU3 := Lib.hid (HU2.out.trans hu3)
    clear hu3 HU2
    go_wp2_with fail
    refine (putOptions_any m _ _ (HM.out.upd HU3.out) HMS.out).mono ?_
    rintro e w4 ⟨rfl, hu4⟩
    rw [HQ.out]
    have HU4 := Lib.hid (HU3.out.trans hu4)
    clear hu4 HU3
    go_wp2_with fail
    refine (getOptions_any S HSZ.out _).mono ?_
    rintro e w5 ⟨v5, own5, rfl, ho5, hin5, hu5⟩
    rw [HG2.out] at ho5
    rw [HG2.out]
    obtain ⟨ao5, cap5, rfl, -, -⟩ := ho5.shape
    have HU5 := Lib.hid (HU4.out.trans hu5)
    clear ho5 hin5 hu5 HU4
    go_wp2_with fail
    refine (alive_any _).mono ?_
    rintro e w6 ⟨rfl, hu6⟩
    go_wp2_with fail
    go_ret
    exact ⟨rfl, HU5.out.trans hu6⟩
  · have t3' : ¬ (30 : Int) < (l.length : Int) + (m.length : Int) := by omega
    have HG2 : Hid (getOpts S = (l ++ m, 0)) := by show _ = _; rw [HG.out, if_neg t3]
    clear HG
    go_enter Try.func4, Try.ntmps4
    go_wp2_with fail
    refine (lightO_any l _ _ HL.out HLS.out).mono ?_
    rintro e w1 ⟨rfl, hu1⟩
    rw [T1.out]
    have HU1 := Lib.hid hu1
    clear hu1
    go_wp2_with fail
    refine (lightO_any m _ _ (HM.out.upd HU1.out) HMS.out).mono ?_
    rintro e w2 ⟨rfl, hu2⟩
    rw [T2.out]
    have HU2 := Lib.hid (HU1.out.trans hu2)
    clear hu2 HU1
    go_wp2_with fail
    refine (putOptions_any l _ _ (HL.out.upd HU2.out) HLS.out).mono ?_
    rintro e w3 ⟨rfl, hu3⟩
    rw [HP.out]
    have HU3 := Lib.hid (HU2.out.trans hu3)
    clear hu3 HU2
    go_wp2_with fail
    refine (putOptions_any m _ _ (HM.out.upd HU3.out) HMS.out).mono ?_
    rintro e w4 ⟨rfl, hu4⟩
    rw [HQ.out]
    have HU4 := Lib.hid (HU3.out.trans hu4)
    clear hu4 HU3
    go_wp2_with fail
    refine (getOptions_any S HSZ.out _).mono ?_
    rintro e w5 ⟨v5, own5, rfl, ho5, hin5, hu5⟩
    rw [HG2.out] at ho5
    rw [HG2.out]
    have HV5 := Lib.hid (TgsAt.of_own ho5)
    have HU5 := Lib.hid (HU4.out.trans hu5)
    clear ho5 hin5 hu5 HU4
    go_wp2_with fail
    refine (alive_any _).mono ?_
    rintro e w6 ⟨rfl, hu6⟩
    have HU6 := Lib.hid (HU5.out.trans hu6)
    have HV6 := Lib.hid (HV5.out.upd hu6)
    have RL := Lib.hid (TgsAt.rd (HL.out.upd HU6.out))
    have RM := Lib.hid (TgsAt.rd (HM.out.upd HU6.out))
    clear hu6 HU5 HV5
    go_wp2_with (first
      | (at_builtin; refine wpList_append_Rd_w _ (by rfl) (.const (.slice none 0 0)) (.tmp 67) 27 rfl 46 i0 _ 2 24 Try.underlying27 hi hz0 hz1 hz2 rfl (by decide) (.slice none 0 0) 0 [] [] (by rfl) (Own.nil _ _ _) _ l.length (tgCells l) (by simp [Act.eval]) RL.out (by have := HLEN.out; simp only [maxLen]; omega) (by have := HLEN.out; omega) ?_; intro ao1 cap1 w7 own1 ho1 hin1 hu7; have HO1 := Lib.hid ho1; have HIN1 := Lib.hid hin1; have HU7 := Lib.hid hu7; clear ho1 hin1 hu7; generalize Value.slice ao1 (0 + l.length) cap1 = v7 at *)
      | (at_builtin; refine wpList_append_Rd_w _ (by rfl) (.tmp 68) (.tmp 69) 27 rfl 46 i0 _ 2 24 Try.underlying27 hi hz0 hz1 hz2 rfl (by decide) _ (0 + l.length) ([] ++ tgCells l) own1 (by simp [Act.eval]) HO1.out _ m.length (tgCells m) (by simp [Act.eval]) (RM.out.upd HU7.out) (by have := HLEN.out; simp only [maxLen]; omega) (by have := HLEN.out; omega) ?_; intro ao2 cap2 w8 own2 ho2 hin2 hu8; have HO2 := Lib.hid ho2; have HIN2 := Lib.hid hin2; have HU8 := Lib.hid hu8; clear ho2 hin2 hu8; generalize Value.slice ao2 (0 + l.length + m.length) cap2 = v8 at *))
    have HAB : Hid (TgsAt w8 v8 (l ++ m)) := TgsAt.of_own (e := 46) (own := own2) (by have h := HO2.out; simpa [tgCells] using h)
    have HU9 : Hid (Upd [] w6 w8) := HU7.out.trans' HU8.out (fun x hx => .inr (by
      rcases HIN1.out x hx with h | h
      · simp at h
      · exact h))
    refine (optsSelf (l ++ m) _ _ _ (HV6.out.upd HU9.out) HAB.out).mono ?_
    rintro e w9 ⟨rfl, hu9⟩
    have HU10 := Lib.hid ((HU6.out.trans HU9.out).trans hu9)
    clear hu9 HO1 HO2 HIN1 HIN2 HU7 HU8 HAB HU9 RL RM
    go_wp2_with fail
    go_ret
    exact ⟨rfl, HU10.out⟩

open Go.ChangeShapes Go.WideShapes in
theorem optsLists_walk {H : Type} {enc : TypeId × Value → H} {v0 v1 : Value} {d0 d1 : DataW H} {p0 p1 : List MemPlace} {W : World} {base : Nat}
    (h0 : DataW.Trod enc Try.prog W 0 (fun _ => true) true 27 v0 d0 p0) (o0 : Value.okWide Try.prog W .any base 27 v0)
    (h1 : DataW.Trod enc Try.prog W 0 (fun _ => true) true 27 v1 d1 p1) (o1 : Value.okWide Try.prog W .any base 27 v1)
    (sz : (DataW.weightsEach Try.prog [27, 27] [d0, d1]).all (· ≤ reachBytes) = true) :
    Calls Try.prog 4 #[v0, v1] W fun e w' => e = .returned (.bool true) ∧ Below W.heap.size W w' := by
  obtain ⟨l, hl, hls⟩ := opts_in h0 o0 (wt_each sz (j := 0) rfl rfl)
  obtain ⟨m, hm, hms⟩ := opts_in h1 o1 (wt_each sz (j := 1) rfl rfl)
  exact (optsLists_any l m v0 v1 W hl hm hls hms).mono fun e w' ⟨he, hu⟩ => ⟨he, hu.below⟩
end Go.Proofs.Ytcibpkhbdmnopaa
