/- The walks of slices.Equal, slices.IndexFunc, slices.ContainsFunc at options, of opts.in, opts.Same. -/
import Derived.Test.YthkfgjmifoeljaaGreatProg
import Derived.Test.YthkfgjmifoeljaaGreatPairs
import Derived.Test.YthkfgjmifoeljaaGreatStr
import Derived.Test.YthkfgjmifoeljaaGreatWire
namespace Go.Proofs.YthkfgjmifoeljaaGreat
open Go.RowKit
set_option linter.unusedSimpArgs false

set_option maxHeartbeats 1000000 in
theorem equal_any (l m : List Tg) (v u : Value) (w : World) (hl : TgsAt w v l) (hm : TgsAt w u m) :
    Calls Tryz.prog 44 #[v, u] w fun e w' => e = .returned (.bool (decide (l = m))) ∧ Upd [] w w' := by
  obtain ⟨ao, cap, rfl, h1, h2, h3⟩ := id hl
  obtain ⟨bo, cbp, rfl, g1, g2, g3⟩ := id hm
  obtain ⟨n, hn⟩ : ∃ n, n = l.length := ⟨_, rfl⟩
  obtain ⟨j, hj⟩ : ∃ n, n = m.length := ⟨_, rfl⟩
  rw [← hn] at h1
  rw [← hj] at g1
  rw [← hn, ← hj]
  have HL := Lib.hid hl
  have HM := Lib.hid hm
  have HN := Lib.hid hn
  have HJ := Lib.hid hj
  simp only [maxLen] at h2 g2
  clear h3 g3 hl hn hm hj
  by_cases tn : n = j
  rotate_left
  · have hne : Hid (decide (l = m) = false) := by
      show _ = _
      rw [decide_eq_false_iff_not]
      rintro rfl
      exact tn (HN.out.trans HJ.out.symm)
    rw [hne.out]
    go_enter Tryz.func44, Tryz.ntmps44
    go_wp2
    go_ret
    exact ⟨rfl, Upd.refl _ _⟩
  subst tn
  go_enter Tryz.func44, Tryz.ntmps44
  go_wp2
  go_loopg [13] n (fun x s13 wr => ∃ k : Nat, k + x = n ∧ s13 = .int .i64 k ∧ l.take k = m.take k ∧ Upd [] w wr)
  case atStart => exact ⟨0, by omega, rfl, rfl, Upd.refl _ _⟩
  case round =>
    obtain ⟨k, hk, rfl, hp, hu⟩ := hrel
    by_cases t : k < n
    · obtain ⟨x, hx⟩ : ∃ x, l[k]? = some x := by
        have := HN.out
        exact ⟨_, List.getElem?_eq_getElem (by omega)⟩
      obtain ⟨y, hy⟩ : ∃ x, m[k]? = some x := by
        have := HJ.out
        exact ⟨_, List.getElem?_eq_getElem (by omega)⟩
      obtain ⟨ao', cap', e0, _, _, h3⟩ := HL.out.upd hu
      injection e0 with e0 _ e2
      subst e0 e2
      obtain ⟨q, rfl, c0, c1⟩ := h3 k x hx
      clear h3
      obtain ⟨ao', cap', e0, _, _, h3⟩ := HM.out.upd hu
      injection e0 with e0 _ e2
      subst e0 e2
      obtain ⟨q', rfl, d0, d1⟩ := h3 k y hy
      clear h3
      have HX := Lib.hid (And.intro hx (And.intro hy (And.intro hp hu)))
      clear hx hy hp hu
      go_wp2
      by_cases hk : x.k = y.k ∧ x.s.toList = y.s.toList
      · obtain ⟨hk1, hk2⟩ := hk
        go_region
        go_wp2
        go_roundg (n - (k + 1))
        case rel =>
          refine ⟨k + 1, by omega, by go_num, ?_, HX.out.2.2.2.drew⟩
          rw [List.take_add_one, List.take_add_one, HX.out.2.2.1, HX.out.1, HX.out.2.1]
          have : x = y := by
            cases x; cases y
            simp only [str_inj] at hk1 hk2
            rw [hk1, hk2]
          rw [this]
        case measure => omega
      · have he : Hid (decide (l = m) = false) := by
          show _ = _
          rw [decide_eq_false_iff_not]
          rintro rfl
          have := HX.out.1.symm.trans HX.out.2.1
          injection this with this
          subst this
          exact hk ⟨rfl, rfl⟩
        by_cases hk1 : x.k = y.k
        · have hk2 : ¬ x.s.toList = y.s.toList := fun h => hk ⟨hk1, h⟩
          clear hk
          go_region
          go_wp2
          go_ret
          rw [he.out]
          exact ⟨rfl, HX.out.2.2.2.drew⟩
        · clear hk
          go_region
          go_wp2
          go_ret
          rw [he.out]
          exact ⟨rfl, HX.out.2.2.2.drew⟩
    · obtain rfl : k = n := by omega
      have he : Hid (decide (l = m) = true) := by
        show _ = _
        rw [decide_eq_true_iff]
        have h7 := hp
        rw [List.take_of_length_le (by rw [← HN.out]; exact Nat.le_refl _), List.take_of_length_le (by rw [← HJ.out]; exact Nat.le_refl _)] at h7
        exact h7
      clear hp
      go_wp2
      go_ret
      rw [he.out]
      exact ⟨rfl, hu⟩
def Tg.val (t : Tg) : Value := .agg #[.int .i64 t.k, .string t.s]
/-- The place of the first one that is so, or -1. -/
def ixf (p : Tg → Bool) : List Tg → Nat → Int
  | [], _ => -1
  | t :: l, k => if p t = true then k else ixf p l (k + 1)
theorem ixf_any (p : Tg → Bool) (l : List Tg) (k : Nat) : decide (0 ≤ ixf p l k) = l.any p := by
  induction l generalizing k with
  | nil => simp [ixf]
  | cons t l ih =>
    rw [ixf, List.any_cons]
    cases h : p t with
    | true => simp
    | false => simp [ih]

set_option maxHeartbeats 1000000 in
theorem indexFunc_any (f : Nat) (p : Tg → Bool) (l : List Tg) (v : Value) (w : World) (hl : TgsAt w v l)
    (hcf : ∀ x W, (callFunc f #[x]).run Tryz.prog W = .ok (.enter f #[x]) W)
    (hf : ∀ t ∈ l, ∀ W : World, Calls Tryz.prog f #[t.val] W fun e w' => e = .returned (.bool (p t)) ∧ Upd [] W w') :
    Calls Tryz.prog 41 #[v, .func (.func f) #[] #[]] w fun e w' => e = .returned (.int .i64 (ixf p l 0)) ∧ Upd [] w w' := by
  obtain ⟨ao, cap, rfl, h1, h2, h3⟩ := id hl
  obtain ⟨n, hn⟩ : ∃ n, n = l.length := ⟨_, rfl⟩
  rw [← hn] at h1
  rw [← hn]
  have HL := Lib.hid hl
  have HN := Lib.hid hn
  have HF := Lib.hid hf
  simp only [maxLen] at h2
  clear h3 hl hn hf
  go_enter Tryz.func41, Tryz.ntmps41
  go_wp2
  go_loopg [8] n (fun m s8 wr => ∃ k : Nat, k + m = n ∧ s8 = .int .i64 k ∧ ixf p (l.drop k) k = ixf p l 0 ∧ Upd [] w wr)
  case atStart => exact ⟨0, by omega, rfl, rfl, Upd.refl _ _⟩
  case round =>
    obtain ⟨k, hk, rfl, hi, hu⟩ := hrel
    by_cases t : k < n
    · obtain ⟨x, hx⟩ : ∃ x, l[k]? = some x := by
        have := HN.out
        exact ⟨_, List.getElem?_eq_getElem (by omega)⟩
      have HC := Lib.hid (HF.out x (List.mem_of_getElem? hx))
      obtain ⟨ao', cap', e0, _, _, h3⟩ := HL.out.upd hu
      injection e0 with e0 _ e2
      subst e0 e2
      obtain ⟨q, rfl, c0, c1⟩ := h3 k x hx
      clear h3
      have hd : l.drop k = x :: l.drop (k + 1) := by
        obtain ⟨h5, h6⟩ := List.getElem?_eq_some_iff.1 hx
        rw [List.drop_eq_getElem_cons h5, h6]
      rw [hd, ixf] at hi
      have HI := Lib.hid hi
      have HU := Lib.hid hu
      clear hi hd hu hx
      by_cases t1 : p x = true
      · go_wp2_with fail
        refine (HC.out _).mono ?_
        rintro e w' ⟨rfl, hu2⟩
        rw [t1]
        have HU2 := Lib.hid (HU.out.trans hu2)
        clear hu2
        go_wp2
        go_ret
        exact ⟨by rw [← HI.out, if_pos t1]; rfl, HU2.out⟩
      · have t1 : p x = false := by simpa using t1
        go_wp2_with fail
        refine (HC.out _).mono ?_
        rintro e w' ⟨rfl, hu2⟩
        rw [t1]
        have HU2 := Lib.hid (HU.out.trans hu2)
        clear hu2
        go_wp2
        go_roundg (n - (k + 1))
        case rel => exact ⟨k + 1, by omega, by go_num, by rw [← HI.out, if_neg (by simp [t1])], HU2.out⟩
        case measure => omega
    · obtain rfl : k = n := by omega
      have hd : l.drop k = [] := by rw [HN.out]; simp
      rw [hd] at hi
      have HI := Lib.hid hi
      clear hi hd
      go_wp2
      go_ret
      exact ⟨by rw [← HI.out]; rfl, hu⟩

set_option maxHeartbeats 1000000 in
theorem containsFunc_any (f : Nat) (p : Tg → Bool) (l : List Tg) (v : Value) (w : World) (hl : TgsAt w v l)
    (hcf : ∀ x W, (callFunc f #[x]).run Tryz.prog W = .ok (.enter f #[x]) W)
    (hf : ∀ t ∈ l, ∀ W : World, Calls Tryz.prog f #[t.val] W fun e w' => e = .returned (.bool (p t)) ∧ Upd [] W w') :
    Calls Tryz.prog 35 #[v, .func (.func f) #[] #[]] w fun e w' => e = .returned (.bool (l.any p)) ∧ Upd [] w w' := by
  have HL := Lib.hid hl
  have HF := Lib.hid hf
  have HCF := Lib.hid hcf
  have H1 := Lib.hid (ixf_any p l 0)
  clear hf hl hcf
  go_enter Tryz.func35, Tryz.ntmps35
  go_wp2_with fail
  refine (indexFunc_any f p l v _ HL.out HCF.out HF.out).mono ?_
  rintro e w' ⟨rfl, hu⟩
  go_wp2
  go_ret
  exact ⟨by rw [← H1.out]; rfl, hu⟩

set_option maxHeartbeats 400000 in
theorem same_any (l m : List Tg) (v u : Value) (w : World) (hl : TgsAt w v l) (hm : TgsAt w u m) :
    Calls Tryz.prog 25 #[v, u] w fun e w' => e = .returned (.bool (decide (l = m))) ∧ Upd [] w w' := by
  have HL := Lib.hid hl
  have HM := Lib.hid hm
  clear hl hm
  go_enter Tryz.func25, Tryz.ntmps25
  go_wp2_with fail
  refine (equal_any l m _ _ _ HL.out HM.out).mono ?_
  rintro e w1 ⟨rfl, hu1⟩
  go_wp2_with fail
  go_ret
  exact ⟨rfl, hu1⟩

set_option maxHeartbeats 1000000 in
theorem indexFuncC_any (f : Nat) (c : Value) (p : Tg → Bool) (l : List Tg) (v : Value) (w : World) (hl : TgsAt w v l)
    (hcf : ∀ x W, (callFunc f #[x, c]).run Tryz.prog W = .ok (.enter f #[x, c]) W)
    (hf : ∀ t ∈ l, ∀ W : World, Upd [] w W → Calls Tryz.prog f #[t.val, c] W fun e w' => e = .returned (.bool (p t)) ∧ Upd [] W w') :
    Calls Tryz.prog 41 #[v, .func (.func f) #[] #[c]] w fun e w' => e = .returned (.int .i64 (ixf p l 0)) ∧ Upd [] w w' := by
  obtain ⟨ao, cap, rfl, h1, h2, h3⟩ := id hl
  obtain ⟨n, hn⟩ : ∃ n, n = l.length := ⟨_, rfl⟩
  rw [← hn] at h1
  rw [← hn]
  have HL := Lib.hid hl
  have HN := Lib.hid hn
  have HF := Lib.hid hf
  simp only [maxLen] at h2
  clear h3 hl hn hf
  go_enter Tryz.func41, Tryz.ntmps41
  go_wp2
  go_loopg [8] n (fun m s8 wr => ∃ k : Nat, k + m = n ∧ s8 = .int .i64 k ∧ ixf p (l.drop k) k = ixf p l 0 ∧ Upd [] w wr)
  case atStart => exact ⟨0, by omega, rfl, rfl, Upd.refl _ _⟩
  case round =>
    obtain ⟨k, hk, rfl, hi, hu⟩ := hrel
    by_cases t : k < n
    · obtain ⟨x, hx⟩ : ∃ x, l[k]? = some x := by
        have := HN.out
        exact ⟨_, List.getElem?_eq_getElem (by omega)⟩
      have HC := Lib.hid (HF.out x (List.mem_of_getElem? hx))
      obtain ⟨ao', cap', e0, _, _, h3⟩ := HL.out.upd hu
      injection e0 with e0 _ e2
      subst e0 e2
      obtain ⟨q, rfl, c0, c1⟩ := h3 k x hx
      clear h3
      have hd : l.drop k = x :: l.drop (k + 1) := by
        obtain ⟨h5, h6⟩ := List.getElem?_eq_some_iff.1 hx
        rw [List.drop_eq_getElem_cons h5, h6]
      rw [hd, ixf] at hi
      have HI := Lib.hid hi
      have HU := Lib.hid hu
      clear hi hd hu hx
      by_cases t1 : p x = true
      · go_wp2_with fail
        refine (HC.out _ HU.out).mono ?_
        rintro e w' ⟨rfl, hu2⟩
        rw [t1]
        have HU2 := Lib.hid (HU.out.trans hu2)
        clear hu2
        go_wp2
        go_ret
        exact ⟨by rw [← HI.out, if_pos t1]; rfl, HU2.out⟩
      · have t1 : p x = false := by simpa using t1
        go_wp2_with fail
        refine (HC.out _ HU.out).mono ?_
        rintro e w' ⟨rfl, hu2⟩
        rw [t1]
        have HU2 := Lib.hid (HU.out.trans hu2)
        clear hu2
        go_wp2
        go_roundg (n - (k + 1))
        case rel => exact ⟨k + 1, by omega, by go_num, by rw [← HI.out, if_neg (by simp [t1])], HU2.out⟩
        case measure => omega
    · obtain rfl : k = n := by omega
      have hd : l.drop k = [] := by rw [HN.out]; simp
      rw [hd] at hi
      have HI := Lib.hid hi
      clear hi hd
      go_wp2
      go_ret
      exact ⟨by rw [← HI.out]; rfl, hu⟩

set_option maxHeartbeats 400000 in
theorem optsIn_any (n a b : Int) (w : World) :
    Calls Tryz.prog 37 #[.int .i64 n, .int .i64 a, .int .i64 b] w fun e w' => e = .returned (.bool (decide (a ≤ n) && decide (n ≤ b))) ∧ w = w' := by
  go_enter Tryz.func37, Tryz.ntmps37
  go_wp2
  all_goals
    go_ret
    refine ⟨?_, rfl⟩
    simp_all
    try omega
end Go.Proofs.YthkfgjmifoeljaaGreat
