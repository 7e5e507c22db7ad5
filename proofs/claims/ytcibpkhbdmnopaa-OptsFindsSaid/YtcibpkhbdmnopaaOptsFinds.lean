/- The walk of the statement OptsFinds. -/
import Derived.Test.YtcibpkhbdmnopaaOptF
import Derived.Test.YtcibpkhbdmnopaaOptsIn
namespace Go.Proofs.Ytcibpkhbdmnopaa
open Go.RowKit
set_option linter.unusedSimpArgs false
set_option linter.unusedVariables false

theorem findO_append (kind : Int) (l m : List Tg) : findO kind (l ++ m) = if (findO kind l).2 = true then findO kind l else findO kind m := by
  unfold findO
  rw [List.find?_append]
  cases h : l.find? (kindIs kind) with
  | none => simp
  | some t => simp

theorem optsSelf (l : List Tg) (v u : Value) (w : World) (hl : TgsAt w v l) (hm : TgsAt w u l) :
    Calls Try.prog 12 #[v, u] w fun e w' => e = .returned (.bool true) ∧ Upd [] w w' :=
  (same_any l l v u w hl hm).mono fun e w' ⟨he, hu⟩ => ⟨by rw [he]; simp, hu⟩

set_option maxHeartbeats 4000000 in
set_option maxRecDepth 100000 in
theorem optsFinds_any (l m : List Tg) (v u : Value) (kind : Int) (w : World) (hl : TgsAt w v l) (hm : TgsAt w u m) (hls : ∀ t ∈ l, t.s.size ≤ 140737488355328) (hms : ∀ t ∈ m, t.s.size ≤ 140737488355328) :
    Calls Try.prog 6 #[v, u, .int .i64 kind] w fun e w' => e = .returned (.bool true) ∧ Upd [] w w' := by
  obtain ⟨i0, hi, hz0, hz1, hz2⟩ := info_parts info_opt
  obtain ⟨ao, cap, rfl, hc1, hc2, -⟩ := id hl
  obtain ⟨bo, cbp, rfl, gc1, gc2, -⟩ := id hm
  have HL := Lib.hid hl
  have HM := Lib.hid hm
  have HLS := Lib.hid hls
  have HMS := Lib.hid hms
  clear hl hm hls hms
  by_cases t1 : LightO l = true
  rotate_left
  · have T1 : Hid (LightO l = false) := by show _ = _; simpa using t1
    clear t1
    go_enter Try.func6, Try.ntmps6
    go_wp2_with fail
    refine (lightO_any l _ _ HL.out HLS.out).mono ?_
    rintro e w1 ⟨rfl, hu1⟩
    rw [T1.out]
    go_wp2_with fail
    refine (alive_any _).mono ?_
    rintro e w2 ⟨rfl, hu2⟩
    go_wp2_with fail
    go_ret
    exact ⟨rfl, hu1.trans hu2⟩
  have n1 := (LightO_spec t1).1
  have T1 := Lib.hid t1
  by_cases t2 : LightO m = true
  rotate_left
  · have T2 : Hid (LightO m = false) := by show _ = _; simpa using t2
    clear t1 t2
    go_enter Try.func6, Try.ntmps6
    go_wp2_with fail
    refine (lightO_any l _ _ HL.out HLS.out).mono ?_
    rintro e w1 ⟨rfl, hu1⟩
    rw [T1.out]
    go_wp2_with fail
    refine (lightO_any m _ _ (HM.out.upd hu1) HMS.out).mono ?_
    rintro e w2 ⟨rfl, hu2⟩
    rw [T2.out]
    go_wp2_with fail
    refine (alive_any _).mono ?_
    rintro e w3 ⟨rfl, hu3⟩
    go_wp2_with fail
    go_ret
    exact ⟨rfl, (hu1.trans hu2).trans hu3⟩
  have n2 := (LightO_spec t2).1
  have T2 := Lib.hid t2
  clear t1 t2
  have HF := Lib.hid (findO_append kind l m)
  obtain ⟨U, X, hP⟩ : ∃ U N, findO kind l = (U, N) := ⟨_, _, rfl⟩
  obtain ⟨V, Y, hR⟩ : ∃ U N, findO kind m = (U, N) := ⟨_, _, rfl⟩
  rw [hP, hR] at HF
  have HP := Lib.hid hP
  have HR := Lib.hid hR
  clear hP hR
  have HLEN : Hid (l.length ≤ 50 ∧ m.length ≤ 50) := ⟨n1, n2⟩
  clear n1 n2
  obtain ⟨B, hB⟩ : ∃ B, B = decide (l = m) := ⟨_, rfl⟩
  have hB2 : decide (m = l) = B := by rw [hB]; congr 1; exact propext eq_comm
  have key : Hid (∀ w8, Upd [] w w8 → Calls Try.prog 12 #[.slice ao l.length cap, .slice ao l.length cap] w8 fun e w' => e = .returned (.bool true) ∧ Upd [] w8 w') := fun w8 hu =>
    optsSelf l _ _ _ (HL.out.upd hu) (HL.out.upd hu)
  have key2 : Hid (∀ w8, Upd [] w w8 → Calls Try.prog 12 #[.slice ao l.length cap, .slice bo m.length cbp] w8 fun e w' => e = .returned (.bool B) ∧ Upd [] w8 w') := fun w8 hu => by
    rw [hB]; exact same_any l m _ _ _ (HL.out.upd hu) (HM.out.upd hu)
  have key3 : Hid (∀ w8, Upd [] w w8 → Calls Try.prog 12 #[.slice bo m.length cbp, .slice ao l.length cap] w8 fun e w' => e = .returned (.bool B) ∧ Upd [] w8 w') := fun w8 hu => by
    rw [← hB2]; exact same_any m l _ _ _ (HM.out.upd hu) (HL.out.upd hu)
  clear hB hB2
  cases X <;> cases Y
  all_goals
    go_enter Try.func6, Try.ntmps6
    go_wp2_with fail
    refine (lightO_any l _ _ HL.out HLS.out).mono ?_
    rintro e w1 ⟨rfl, hu1⟩
    rw [T1.out]
    have HU1 := Lib.hid hu1
    clear hu1
    go_wp2_with fail
    refine (lightO_any m _ _ (HM.out.upd HU1.out) HMS.out).mono ?_
    rintro e w2 ⟨rfl, hu2⟩
    rw [T2.out]
    have HU2 := Lib.hid (HU1.out.trans hu2)
    clear hu2 HU1
    go_wp2_with fail
    refine (optFind_any l _ kind _ (HL.out.upd HU2.out)).mono ?_
    rintro e w3 ⟨rfl, hu3⟩
    rw [HP.out]
    have HU3 := Lib.hid (HU2.out.trans hu3)
    clear hu3 HU2
    go_wp2_with fail
    refine (optFind_any m _ kind _ (HM.out.upd HU3.out)).mono ?_
    rintro e w4 ⟨rfl, hu4⟩
    rw [HR.out]
    have HU4 := Lib.hid (HU3.out.trans hu4)
    clear hu4 HU3
    have RL := Lib.hid (TgsAt.rd (HL.out.upd HU4.out))
    have RM := Lib.hid (TgsAt.rd (HM.out.upd HU4.out))
    go_wp2_with (first
      | (at_builtin; refine wpList_append_Rd _ rfl (.const (.slice none 0 0)) (.tmp 36) 27 rfl 46 i0 _ 2 24 Try.underlying27 hi hz0 hz1 hz2 rfl (by decide) (.slice none 0 0) 0 [] [] (by rfl) (Own.nil _ _ _) _ l.length (tgCells l) (by simp [Act.eval]) RL.out (by have := HLEN.out; simp only [maxLen]; omega) (by have := HLEN.out; omega) ?_; intro ao1 cap1 w5 own1 ho1 hin1 hu5; have HO1 := Lib.hid ho1; have HIN1 := Lib.hid hin1; have HU5 := Lib.hid hu5; clear ho1 hin1 hu5; generalize Value.slice ao1 (0 + l.length) cap1 = v5 at *)
      | (at_builtin; refine wpList_append_Rd _ rfl (.tmp 37) (.tmp 38) 27 rfl 46 i0 _ 2 24 Try.underlying27 hi hz0 hz1 hz2 rfl (by decide) _ (0 + l.length) ([] ++ tgCells l) own1 (by simp [Act.eval]) HO1.out _ m.length (tgCells m) (by simp [Act.eval]) (RM.out.upd HU5.out) (by have := HLEN.out; simp only [maxLen]; omega) (by have := HLEN.out; omega) ?_; intro ao2 cap2 w6 own2 ho2 hin2 hu6; have HO2 := Lib.hid ho2; have HIN2 := Lib.hid hin2; have HU6 := Lib.hid hu6; clear ho2 hin2 hu6; generalize Value.slice ao2 (0 + l.length + m.length) cap2 = v6 at *))
    have HAB : Hid (TgsAt w6 v6 (l ++ m)) := TgsAt.of_own (e := 46) (own := own2) (by have h := HO2.out; simpa [tgCells] using h)
    have HU7 : Hid (Upd [] w w6) := by
      refine (HU4.out.trans HU5.out).trans' HU6.out (fun x hx => .inr ?_)
      have h1 := HU4.out.size
      rcases HIN1.out x hx with h | h
      · simp at h
      · omega
    clear HO1 HO2 HIN1 HIN2 HU5 HU6 RL RM HU4
    refine (optFind_any (l ++ m) _ kind _ HAB.out).mono ?_
    rintro e w7 ⟨rfl, hu7⟩
    rw [HF.out]
    simp only [Bool.false_eq_true, if_false, if_true]
    have HU8 := Lib.hid (HU7.out.trans hu7)
    clear hu7 HU7 HAB
    go_wp2_with fail
    refine (alive_any _).mono ?_
    rintro e w8 ⟨rfl, hu8⟩
    have HU9 := Lib.hid (HU8.out.trans hu8)
    clear hu8 HU8
    go_wp2_with fail
    refine (key.out _ HU9.out).mono ?_
    rintro e w9 ⟨rfl, hu9⟩
    have HU10 := Lib.hid (HU9.out.trans hu9)
    clear hu9 HU9
    go_wp2_with fail
    refine (key2.out _ HU10.out).mono ?_
    rintro e w10 ⟨rfl, hu10⟩
    have HU11 := Lib.hid (HU10.out.trans hu10)
    clear hu10 HU10
    go_wp2_with fail
    refine (key3.out _ HU11.out).mono ?_
    rintro e w11 ⟨rfl, hu11⟩
    go_wp2_with fail
    go_ret
    exact ⟨rfl, HU11.out.trans hu11⟩

theorem optsFinds_walk {H : Type} {enc : TypeId × Value → H} {v0 v1 : Value} {d0 d1 d2 : DataW H} {p0 p1 : List MemPlace} {W : World} {base : Nat}
    (h0 : DataW.Trod enc Try.prog W 0 (fun _ => true) true 27 v0 d0 p0) (o0 : Value.okWide Try.prog W .any base 27 v0)
    (h1 : DataW.Trod enc Try.prog W 0 (fun _ => true) true 27 v1 d1 p1) (o1 : Value.okWide Try.prog W .any base 27 v1)
    (kind : Int) (_ : (Lit.int .i64 kind).wf = true)
    (sz : (DataW.weightsEach Try.prog [27, 27, 3] [d0, d1, d2]).all (· ≤ reachBytes) = true) :
    Calls Try.prog 6 #[v0, v1, .int .i64 kind] W fun e w' => e = .returned (.bool true) ∧ Below W.heap.size W w' := by
  obtain ⟨l, hl, hls⟩ := opts_in h0 o0 (wt_each sz (j := 0) rfl rfl)
  obtain ⟨m, hm, hms⟩ := opts_in h1 o1 (wt_each sz (j := 1) rfl rfl)
  exact (optsFinds_any l m v0 v1 kind W hl hm hls hms).mono fun e w' ⟨he, hu⟩ => ⟨he, hu.below⟩
end Go.Proofs.Ytcibpkhbdmnopaa
