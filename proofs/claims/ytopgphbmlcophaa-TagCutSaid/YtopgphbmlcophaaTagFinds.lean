/- The walk of the statement TagFinds. -/
import Derived.Test.YtopgphbmlcophaaTagL
import Derived.Test.YtopgphbmlcophaaApp
namespace Go.Proofs.Ytopgphbmlcophaa
open Go.RowKit
set_option linter.unusedSimpArgs false

theorem findTg_append (kind : Int) (l m : List Tg) (p : ByteArray × Nat) : findTg kind (l ++ m) p = findTg kind m (findTg kind l p) := by
  induction l generalizing p with
  | nil => rfl
  | cons t l ih => rw [List.cons_append, findTg, findTg, ih]
theorem findTg_pos (kind : Int) (m : List Tg) (u : ByteArray) (n : Nat) (hn : n ≠ 0) : ∀ (j : Nat) (x : ByteArray), ∃ y, findTg kind m (x, j) = (y, (findTg kind m (u, n)).2 + j - n) ∧ (findTg kind m (u, n)).1 = u ∧ n ≤ (findTg kind m (u, n)).2 := by
  induction m generalizing u n with
  | nil => intro j x; exact ⟨x, by simp [findTg], rfl, Nat.le_refl _⟩
  | cons t m ih =>
    intro j x
    rw [findTg, findTg]
    by_cases h : t.k = kind
    · simp only [h, ne_eq, not_true_eq_false, if_false, hn]
      by_cases hj : j = 0
      · rw [if_pos hj]
        obtain ⟨y, h1, h2, h3⟩ := ih u (n + 1) (by omega) (j + 1) t.s
        exact ⟨y, by rw [h1]; congr 1; omega, h2, by omega⟩
      · rw [if_neg hj]
        obtain ⟨y, h1, h2, h3⟩ := ih u (n + 1) (by omega) (j + 1) x
        exact ⟨y, by rw [h1]; congr 1; omega, h2, by omega⟩
    · rw [if_pos h, if_pos h]
      obtain ⟨y, h1, h2, h3⟩ := ih u n hn j x
      exact ⟨y, h1, h2, h3⟩
theorem findTg_zero (kind : Int) (l : List Tg) (x : ByteArray) (j : Nat) : j ≤ (findTg kind l (x, j)).2 ∧ ((findTg kind l (x, j)).2 = j → (findTg kind l (x, j)).1 = x) := by
  induction l generalizing x j with
  | nil => exact ⟨Nat.le_refl _, fun _ => rfl⟩
  | cons t l ih =>
    rw [findTg]
    by_cases h : t.k = kind
    · rw [if_neg (by simp [h])]
      by_cases hj : j = 0
      · subst hj
        simp only [if_true, Nat.zero_add]
        have := (ih t.s 1).1
        exact ⟨by omega, fun h => by omega⟩
      · simp only [hj, if_false]
        have := (ih x (j + 1)).1
        exact ⟨by omega, fun h => by omega⟩
    · rw [if_pos h]; exact ih x j
theorem findTg_le (kind : Int) (l : List Tg) (p : ByteArray × Nat) : (findTg kind l p).2 ≤ p.2 + l.length := by
  induction l generalizing p with
  | nil => simp [findTg]
  | cons t l ih =>
    rw [findTg, List.length_cons]
    have := ih (if t.k ≠ kind then p else if p.2 = 0 then (t.s, p.2 + 1) else (p.1, p.2 + 1))
    have h2 : (if t.k ≠ kind then p else if p.2 = 0 then (t.s, p.2 + 1) else (p.1, p.2 + 1)).2 ≤ p.2 + 1 := by
      split
      · omega
      · split <;> simp
    omega
theorem finds (kind : Int) (l m : List Tg) : findTg kind (l ++ m) (⟨#[]⟩, 0) =
    ((if (findTg kind l (⟨#[]⟩, 0)).2 = 0 then (findTg kind m (⟨#[]⟩, 0)).1 else (findTg kind l (⟨#[]⟩, 0)).1), (findTg kind l (⟨#[]⟩, 0)).2 + (findTg kind m (⟨#[]⟩, 0)).2) := by
  rw [findTg_append]
  obtain ⟨⟨u, n⟩, hp⟩ : ∃ p, findTg kind l (⟨#[]⟩, 0) = p := ⟨_, rfl⟩
  have h0 := findTg_zero kind l ⟨#[]⟩ 0
  rw [hp] at h0 ⊢
  simp only at h0 ⊢
  by_cases hn : n = 0
  · subst hn
    have hu := h0.2 rfl
    subst hu
    simp
  · rw [if_neg hn]
    obtain ⟨y, h1, h2, h3⟩ := findTg_pos kind m u n hn 0 ⟨#[]⟩
    rw [h1]
    apply Prod.ext
    · exact h2
    · simp only; omega

theorem Light_len {l : List Tg} (h : Light l = true) : l.length ≤ 40 := by
  simp [Light] at h; exact h.1

set_option maxHeartbeats 400000 in
theorem same_any (l m : List Tg) (v u : Value) (w : World) (hl : TgsAt w v l) (hm : TgsAt w u m) :
    Calls Try.prog 10 #[v, u] w fun e w' => e = .returned (.bool (decide (l = m))) ∧ Upd [] w w' := by
  have HL := Lib.hid hl
  have HM := Lib.hid hm
  clear hl hm
  go_enter Try.func10, Try.ntmps10
  go_wp2_with fail
  refine (equal_any l m _ _ _ HL.out HM.out).mono ?_
  rintro e w1 ⟨rfl, hu1⟩
  go_wp2_with fail
  go_ret
  exact ⟨rfl, hu1⟩

set_option maxHeartbeats 4000000 in
theorem tagFinds_any (l m : List Tg) (v u : Value) (kind : Int) (w : World) (hl : TgsAt w v l) (hm : TgsAt w u m) (hls : ∀ t ∈ l, t.s.size ≤ 140737488355328) (hms : ∀ t ∈ m, t.s.size ≤ 140737488355328) :
    Calls Try.prog 3 #[v, u, .int .i64 kind] w fun e w' => e = .returned (.bool true) ∧ Upd [] w w' := by
  obtain ⟨i0, hi, hz0, hz1, hz2⟩ := info_parts info_tag
  obtain ⟨ao, cap, rfl, hc1, hc2, -⟩ := id hl
  obtain ⟨bo, cbp, rfl, gc1, gc2, -⟩ := id hm
  have HL := Lib.hid hl
  have HM := Lib.hid hm
  have HLS := Lib.hid hls
  have HMS := Lib.hid hms
  clear hl hm hls hms
  by_cases t1 : Light l = true
  rotate_left
  · have T1 : Hid (Light l = false) := by show _ = _; simpa using t1
    clear t1
    go_enter Try.func3, Try.ntmps3
    go_wp2_with fail
    refine (light_any l _ _ HL.out HLS.out).mono ?_
    rintro e w1 ⟨rfl, hu1⟩
    rw [T1.out]
    go_wp2_with fail
    refine (alive_any _).mono ?_
    rintro e w2 ⟨rfl, hu2⟩
    go_wp2_with fail
    go_ret
    exact ⟨rfl, hu1.trans hu2⟩
  have n1 := Light_len t1
  have T1 := Lib.hid t1
  by_cases t2 : Light m = true
  rotate_left
  · have T2 : Hid (Light m = false) := by show _ = _; simpa using t2
    clear t1 t2
    go_enter Try.func3, Try.ntmps3
    go_wp2_with fail
    refine (light_any l _ _ HL.out HLS.out).mono ?_
    rintro e w1 ⟨rfl, hu1⟩
    rw [T1.out]
    go_wp2_with fail
    refine (light_any m _ _ (HM.out.upd hu1) HMS.out).mono ?_
    rintro e w2 ⟨rfl, hu2⟩
    rw [T2.out]
    go_wp2_with fail
    refine (alive_any _).mono ?_
    rintro e w3 ⟨rfl, hu3⟩
    go_wp2_with fail
    go_ret
    exact ⟨rfl, (hu1.trans hu2).trans hu3⟩
  have n2 := Light_len t2
  have T2 := Lib.hid t2
  clear t1 t2
  have HF := Lib.hid (finds kind l m)
  obtain ⟨U, N, hP⟩ : ∃ U N, findTg kind l (⟨#[]⟩, 0) = (U, N) := ⟨_, _, rfl⟩
  obtain ⟨V, M, hR⟩ : ∃ U N, findTg kind m (⟨#[]⟩, 0) = (U, N) := ⟨_, _, rfl⟩
  have b1 := findTg_le kind l (⟨#[]⟩, 0)
  have b2 := findTg_le kind m (⟨#[]⟩, 0)
  rw [hP] at b1
  rw [hR] at b2
  rw [hP, hR] at HF
  have HP := Lib.hid hP
  have HR := Lib.hid hR
  clear hP hR
  simp only [Nat.zero_add] at b1 b2 HF
  have b1 : N ≤ 40 := by omega
  have b2 : M ≤ 40 := by omega
  have HLEN : Hid (l.length ≤ 40 ∧ m.length ≤ 40) := ⟨n1, n2⟩
  clear n1 n2
  obtain ⟨W, hW⟩ : ∃ W, W = (if N = 0 then V else U) := ⟨_, rfl⟩
  rw [← hW] at HF
  have HWW := Lib.hid hW
  clear hW
  go_enter Try.func3, Try.ntmps3
  go_wp2_with fail
  refine (light_any l _ _ HL.out HLS.out).mono ?_
  rintro e w1 ⟨rfl, hu1⟩
  rw [T1.out]
  have HU1 := Lib.hid hu1
  clear hu1
  go_wp2_with fail
  refine (light_any m _ _ (HM.out.upd HU1.out) HMS.out).mono ?_
  rintro e w2 ⟨rfl, hu2⟩
  rw [T2.out]
  have HU2 := Lib.hid (HU1.out.trans hu2)
  clear hu2 HU1
  go_wp2_with fail
  refine (find_any l _ kind _ (HL.out.upd HU2.out)).mono ?_
  rintro e w3 ⟨rfl, hu3⟩
  rw [HP.out]
  have HU3 := Lib.hid (HU2.out.trans hu3)
  clear hu3 HU2
  go_wp2_with fail
  refine (find_any m _ kind _ (HM.out.upd HU3.out)).mono ?_
  rintro e w4 ⟨rfl, hu4⟩
  rw [HR.out]
  have HU4 := Lib.hid (HU3.out.trans hu4)
  clear hu4 HU3
  have RL := Lib.hid (TgsAt.rd (HL.out.upd HU4.out))
  have RM := Lib.hid (TgsAt.rd (HM.out.upd HU4.out))
  go_wp2_with (first
    | (at_builtin; refine wpList_append_Rd _ rfl (.const (.slice none 0 0)) (.tmp 36) 22 rfl 41 i0 _ 2 24 Try.underlying22 hi hz0 hz1 hz2 rfl (by decide) (.slice none 0 0) 0 [] [] (by rfl) (Own.nil _ _ _) _ l.length (tgCells l) (by simp [Act.eval]) RL.out (by have := HLEN.out; simp only [maxLen]; omega) (by have := HLEN.out; omega) ?_; intro ao1 cap1 w5 own1 ho1 hin1 hu5; have HO1 := Lib.hid ho1; have HIN1 := Lib.hid hin1; have HU5 := Lib.hid hu5; clear ho1 hin1 hu5; generalize Value.slice ao1 (0 + l.length) cap1 = v5 at *)
    | (at_builtin; refine wpList_append_Rd _ rfl (.tmp 37) (.tmp 38) 22 rfl 41 i0 _ 2 24 Try.underlying22 hi hz0 hz1 hz2 rfl (by decide) _ (0 + l.length) ([] ++ tgCells l) own1 (by simp [Act.eval]) HO1.out _ m.length (tgCells m) (by simp [Act.eval]) (RM.out.upd HU5.out) (by have := HLEN.out; simp only [maxLen]; omega) (by have := HLEN.out; omega) ?_; intro ao2 cap2 w6 own2 ho2 hin2 hu6; have HO2 := Lib.hid ho2; have HIN2 := Lib.hid hin2; have HU6 := Lib.hid hu6; clear ho2 hin2 hu6; generalize Value.slice ao2 (0 + l.length + m.length) cap2 = v6 at *))
  have HAB : Hid (TgsAt w6 v6 (l ++ m)) := TgsAt.of_own (e := 41) (own := own2) (by have h := HO2.out; simpa [tgCells] using h)
  have HU7 : Hid (Upd [] w w6) := by
    refine (HU4.out.trans HU5.out).trans' HU6.out (fun x hx => .inr ?_)
    have h1 := HU4.out.size
    rcases HIN1.out x hx with h | h
    · simp at h
    · omega
  clear HO1 HO2 HIN1 HIN2 HU5 HU6 RL RM HU4
  refine (find_any (l ++ m) _ kind _ HAB.out).mono ?_
  rintro e w7 ⟨rfl, hu7⟩
  rw [HF.out]
  have HU8 := Lib.hid (HU7.out.trans hu7)
  clear hu7 HU7 HAB
  have key : Hid (∀ w8, Upd [] w w8 → Calls Try.prog 10 #[.slice ao l.length cap, .slice ao l.length cap] w8 fun e w' => e = .returned (.bool true) ∧ Upd [] w8 w') := fun w8 hu => by
    refine (same_any l l _ _ _ (HL.out.upd hu) (HL.out.upd hu)).mono ?_
    rintro e w9 ⟨rfl, hu9⟩
    exact ⟨by simp, hu9⟩
  have key2 : Hid (l.length ≠ m.length → ∀ w8, Upd [] w w8 → Calls Try.prog 10 #[.slice ao l.length cap, .slice bo m.length cbp] w8 fun e w' => e = .returned (.bool false) ∧ Upd [] w8 w') := fun hne w8 hu => by
    refine (same_any l m _ _ _ (HL.out.upd hu) (HM.out.upd hu)).mono ?_
    rintro e w9 ⟨rfl, hu9⟩
    exact ⟨by congr 2; exact decide_eq_false (fun h => hne (congrArg _ h)), hu9⟩
  by_cases hN : N = 0
  · subst hN
    rw [if_pos rfl] at HWW
    obtain rfl := HWW.out
    clear HWW
    by_cases hlm : l.length = m.length
    · have q1 : ((l.length : Int) != (m.length : Int)) = false := by simp [hlm]
      have q2 : ((l.length : Int) == (m.length : Int)) = true := by simp [hlm]
      clear hlm
      go_wp2_with fail
      refine (alive_any _).mono ?_
      rintro e w8 ⟨rfl, hu8⟩
      have HU9 := Lib.hid (HU8.out.trans hu8)
      clear hu8 HU8
      go_wp2_with fail
      refine (key.out _ HU9.out).mono ?_
      rintro e w9 ⟨rfl, hu9⟩
      have HU10 := Lib.hid (HU9.out.trans hu9)
      clear hu9 HU9
      go_wp2_with fail
      go_ret
      exact ⟨rfl, HU10.out⟩
    · have q1 : ((l.length : Int) != (m.length : Int)) = true := by rw [bne_iff_ne]; omega
      have HLM := Lib.hid hlm
      clear hlm
      go_wp2_with fail
      refine (alive_any _).mono ?_
      rintro e w8 ⟨rfl, hu8⟩
      have HU9 := Lib.hid (HU8.out.trans hu8)
      clear hu8 HU8
      go_wp2_with fail
      refine (key.out _ HU9.out).mono ?_
      rintro e w9 ⟨rfl, hu9⟩
      have HU10 := Lib.hid (HU9.out.trans hu9)
      clear hu9 HU9
      go_wp2_with fail
      refine (key2.out HLM.out _ HU10.out).mono ?_
      rintro e w10 ⟨rfl, hu10⟩
      have HU11 := Lib.hid (HU10.out.trans hu10)
      clear hu10 HU10
      go_wp2_with fail
      go_ret
      exact ⟨rfl, HU11.out⟩
  · rw [if_neg hN] at HWW
    obtain rfl := HWW.out
    clear HWW
    have q0 : ((N : Int) == 0) = false := by rw [beq_eq_false_iff_ne]; omega
    clear hN
    by_cases hlm : l.length = m.length
    · have q1 : ((l.length : Int) != (m.length : Int)) = false := by simp [hlm]
      have q2 : ((l.length : Int) == (m.length : Int)) = true := by simp [hlm]
      clear hlm
      go_wp2_with fail
      refine (alive_any _).mono ?_
      rintro e w8 ⟨rfl, hu8⟩
      have HU9 := Lib.hid (HU8.out.trans hu8)
      clear hu8 HU8
      go_wp2_with fail
      refine (key.out _ HU9.out).mono ?_
      rintro e w9 ⟨rfl, hu9⟩
      have HU10 := Lib.hid (HU9.out.trans hu9)
      clear hu9 HU9
      go_wp2_with fail
      go_ret
      exact ⟨rfl, HU10.out⟩
    · have q1 : ((l.length : Int) != (m.length : Int)) = true := by rw [bne_iff_ne]; omega
      have HLM := Lib.hid hlm
      clear hlm
      go_wp2_with fail
      refine (alive_any _).mono ?_
      rintro e w8 ⟨rfl, hu8⟩
      have HU9 := Lib.hid (HU8.out.trans hu8)
      clear hu8 HU8
      go_wp2_with fail
      refine (key.out _ HU9.out).mono ?_
      rintro e w9 ⟨rfl, hu9⟩
      have HU10 := Lib.hid (HU9.out.trans hu9)
      clear hu9 HU9
      go_wp2_with fail
      refine (key2.out HLM.out _ HU10.out).mono ?_
      rintro e w10 ⟨rfl, hu10⟩
      have HU11 := Lib.hid (HU10.out.trans hu10)
      clear hu10 HU10
      go_wp2_with fail
      go_ret
      exact ⟨rfl, HU11.out⟩
end Go.Proofs.Ytopgphbmlcophaa
