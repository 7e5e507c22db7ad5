/- The walk of the document's own Number (chapter 18). The walk of the document's own Length (chapter 18). Printed by gen/rlen.py. The walks of the document's own Num (chapter 18) and of avp.Num, where the length is none. The walk of the document's own Same (chapter 18). -/
import Derived.Test.YtfbdbebahpemhaaGreatQRAvA
import Derived.Test.YtfbdbebahpemhaaGreatQRely
import Derived.Test.YtfbdbebahpemhaaGreatQLen
import Derived.Test.YtfbdbebahpemhaaGreatQLib
namespace Go.Proofs.YtfbdbebahpemhaaGreat
open Go.RowKit
set_option linter.unusedSimpArgs false
set_option linter.unusedVariables false
set_option maxRecDepth 100000

set_option maxHeartbeats 1000000 in
theorem rnumber18_any (l : List Av) (v : Value) (kind : Int) (w : World) (hl : AvsAt w v l) (hs : ∀ t ∈ l, t.val.size ≤ maxLen) :
    Calls Tryz.prog 14 #[v, .int .i64 kind] w fun e w' => e = .returned (.tuple #[.int .i64 (numberAv l kind).1, .bool (numberAv l kind).2]) ∧ Upd [] w w' := by
  have HL := Lib.hid hl
  have hs2 := findAv_size kind l _ hs
  simp only [maxLen] at hs2
  obtain ⟨s, b, hf⟩ : ∃ s b, findAv kind l = (s, b) := ⟨_, _, rfl⟩
  have HQ : Hid (numberAv l kind = if b = false ∨ s.size = 0 then (0, false) else valueB s) := by show _ = _; rw [numberAv, hf]
  rw [HQ.out]
  rw [hf] at hs2
  dsimp only at hs2
  have HF := Lib.hid hf
  clear hf HQ hl hs
  obtain ⟨n, hn⟩ : ∃ n, s.size = n := ⟨_, rfl⟩
  rw [hn] at hs2
  by_cases t : b = true ∧ 1 ≤ n ∧ n ≤ 7
  · obtain ⟨rfl, t1, t2⟩ := t
    rw [if_neg (by simp [hn]; omega), valueB, if_neg (by omega), hn]
    have u1 : ¬ ((n : Int) < 1) := by omega
    have u2 : ¬ ((7 : Int) < n) := by omega
    go_enter Tryz.func14, Tryz.ntmps14
    go_wp2_with fail
    refine (rfind18_any l v kind _ HL.out).mono ?_
    rintro e w1 ⟨rfl, hu⟩
    rw [HF.out]
    have HU := Lib.hid hu
    clear hu
    go_wp2_with fail
    go_loopg [8, 9] n (fun m s8 s9 wr => ∃ (k : Nat) (x : Int), k + m = n ∧ s9 = .int .i64 k ∧ s8 = .int .i64 x ∧ x = num s 0 k ∧ 0 ≤ x ∧ x < 256 ^ k ∧ w1 = wr)
    case atStart => exact ⟨0, 0, by omega, rfl, rfl, rfl, by omega, by decide, rfl⟩
    case round =>
      obtain ⟨k, x, hk, rfl, rfl, hx, hx0, hxb, rfl⟩ := hrel
      by_cases t : k < n
      · have q0 := byte_get s k (by omega)
        have d0 := byte_bd s k
        have HX : Hid (x * 256 + byte s k = num s 0 (k + 1)) := by show _ = _; rw [hx, num, Nat.zero_add]
        have hb : (256 : Int) ^ k ≤ 256 ^ 6 := by
          have : (256 : Nat) ^ k ≤ 256 ^ 6 := Nat.pow_le_pow_right (by omega) (by omega)
          exact_mod_cast this
        have hxc : x < 281474976710656 := Int.lt_of_lt_of_le hxb hb
        have HB : Hid (x * 256 + byte s k < 256 ^ (k + 1)) := by
          show _ < _
          rw [Int.pow_succ]
          omega
        generalize byte s k = y at *
        have w3 : True → IntKind.i64.wrap y = y := fun _ => IntWalk.i64_in _ (by omega)
        have t' : (k : Int) < n := by omega
        clear hx hxb hb
        go_wp2_with fail
        go_roundg (n - (k + 1))
        case rel => exact ⟨k + 1, x * 256 + y, by omega, by go_num, rfl, HX.out, by omega, HB.out, rfl⟩
        case measure => omega
      · obtain rfl : k = n := by omega
        have HX := Lib.hid hx
        clear hx hxb
        go_wp2_with fail
        go_ret2
        exact ⟨by rw [HX.out]; rfl, HU.out⟩
  · have hq : (if b = false ∨ s.size = 0 then ((0 : Int), false) else valueB s) = (0, false) := by
      by_cases h1 : b = false ∨ s.size = 0
      · rw [if_pos h1]
      · rw [if_neg h1, valueB, if_pos]
        rw [not_or, Bool.not_eq_false] at h1
        have : b = true ∧ 1 ≤ n → ¬ n ≤ 7 := fun h2 h3 => t ⟨h2.1, h2.2, h3⟩
        have := this ⟨h1.1, by rw [hn] at h1; omega⟩
        omega
    rw [hq]
    clear hq
    cases b
    · clear t
      go_enter Tryz.func14, Tryz.ntmps14
      go_wp2_with fail
      refine (rfind18_any l v kind _ HL.out).mono ?_
      rintro e w1 ⟨rfl, hu⟩
      rw [HF.out]
      go_wp2_with fail
      go_ret2
      exact ⟨rfl, hu⟩
    · by_cases t1 : n < 1
      · have u1 : ((n : Int) < 1) := by omega
        clear t
        go_enter Tryz.func14, Tryz.ntmps14
        go_wp2_with fail
        refine (rfind18_any l v kind _ HL.out).mono ?_
        rintro e w1 ⟨rfl, hu⟩
        rw [HF.out]
        go_wp2_with fail
        go_ret2
        exact ⟨rfl, hu⟩
      · have u1 : ¬ ((n : Int) < 1) := by omega
        have u2 : (7 : Int) < n := by
          have : ¬ (1 ≤ n ∧ n ≤ 7) := fun h => t ⟨rfl, h⟩
          omega
        clear t
        go_enter Tryz.func14, Tryz.ntmps14
        go_wp2_with fail
        refine (rfind18_any l v kind _ HL.out).mono ?_
        rintro e w1 ⟨rfl, hu⟩
        rw [HF.out]
        go_wp2_with fail
        go_ret2
        exact ⟨rfl, hu⟩
end Go.Proofs.YtfbdbebahpemhaaGreat
namespace Go.Proofs.YtfbdbebahpemhaaGreat
open Go.RowKit
set_option linter.unusedSimpArgs false
set_option linter.unusedVariables false
set_option maxRecDepth 100000

theorem avpLen_none (kind : Int) (h0 : ¬ kind = 0) (h2 : ¬ kind = 2) (h9 : ¬ kind = 9) (h10 : ¬ kind = 10) (h14 : ¬ kind = 14) (h29 : ¬ kind = 29) (h32 : ¬ kind = 32) (h3 : ¬ kind = 3) (h15 : ¬ kind = 15) (h19 : ¬ kind = 19) (h24 : ¬ kind = 24) (h5 : ¬ kind = 5) (h13 : ¬ kind = 13) (h39 : ¬ kind = 39) (h1 : ¬ kind = 1) (h7 : ¬ kind = 7) (h11 : ¬ kind = 11) (h26 : ¬ kind = 26) (h27 : ¬ kind = 27) (h28 : ¬ kind = 28) (h30 : ¬ kind = 30) (h31 : ¬ kind = 31) (h33 : ¬ kind = 33) (h34 : ¬ kind = 34) (h35 : ¬ kind = 35) (h36 : ¬ kind = 36) : avpLen kind = -2 := by
  unfold avpLen
  simp [lenT, h0, h2, h9, h10, h14, h29, h32, h3, h15, h19, h24, h5, h13, h39, h1, h7, h11, h26, h27, h28, h30, h31, h33, h34, h35, h36]
set_option maxHeartbeats 4000000 in
theorem rlen18_any (kind : Int) (w : World) :
    Calls Tryz.prog 24 #[.int .i64 kind] w fun e w' => e = .returned (.int .i64 (avpLen kind)) ∧ Upd [] w w' := by
  by_cases h0 : kind = 0
  · subst h0
    go_enter Tryz.func24, Tryz.ntmps24
    go_wp2_with fail
    go_ret
    exact ⟨rfl, Upd.refl _ _⟩
  by_cases h2 : kind = 2
  · subst h2
    go_enter Tryz.func24, Tryz.ntmps24
    go_wp2_with fail
    go_ret
    exact ⟨rfl, Upd.refl _ _⟩
  by_cases h9 : kind = 9
  · subst h9
    go_enter Tryz.func24, Tryz.ntmps24
    go_wp2_with fail
    go_ret
    exact ⟨rfl, Upd.refl _ _⟩
  by_cases h10 : kind = 10
  · subst h10
    go_enter Tryz.func24, Tryz.ntmps24
    go_wp2_with fail
    go_ret
    exact ⟨rfl, Upd.refl _ _⟩
  by_cases h14 : kind = 14
  · subst h14
    go_enter Tryz.func24, Tryz.ntmps24
    go_wp2_with fail
    go_ret
    exact ⟨rfl, Upd.refl _ _⟩
  by_cases h29 : kind = 29
  · subst h29
    go_enter Tryz.func24, Tryz.ntmps24
    go_wp2_with fail
    go_ret
    exact ⟨rfl, Upd.refl _ _⟩
  by_cases h32 : kind = 32
  · subst h32
    go_enter Tryz.func24, Tryz.ntmps24
    go_wp2_with fail
    go_ret
    exact ⟨rfl, Upd.refl _ _⟩
  by_cases h3 : kind = 3
  · subst h3
    go_enter Tryz.func24, Tryz.ntmps24
    go_wp2_with fail
    go_ret
    exact ⟨rfl, Upd.refl _ _⟩
  by_cases h15 : kind = 15
  · subst h15
    go_enter Tryz.func24, Tryz.ntmps24
    go_wp2_with fail
    go_ret
    exact ⟨rfl, Upd.refl _ _⟩
  by_cases h19 : kind = 19
  · subst h19
    go_enter Tryz.func24, Tryz.ntmps24
    go_wp2_with fail
    go_ret
    exact ⟨rfl, Upd.refl _ _⟩
  by_cases h24 : kind = 24
  · subst h24
    go_enter Tryz.func24, Tryz.ntmps24
    go_wp2_with fail
    go_ret
    exact ⟨rfl, Upd.refl _ _⟩
  by_cases h5 : kind = 5
  · subst h5
    go_enter Tryz.func24, Tryz.ntmps24
    go_wp2_with fail
    go_ret
    exact ⟨rfl, Upd.refl _ _⟩
  by_cases h13 : kind = 13
  · subst h13
    go_enter Tryz.func24, Tryz.ntmps24
    go_wp2_with fail
    go_ret
    exact ⟨rfl, Upd.refl _ _⟩
  by_cases h39 : kind = 39
  · subst h39
    go_enter Tryz.func24, Tryz.ntmps24
    go_wp2_with fail
    go_ret
    exact ⟨rfl, Upd.refl _ _⟩
  by_cases h1 : kind = 1
  · subst h1
    go_enter Tryz.func24, Tryz.ntmps24
    go_wp2_with fail
    go_ret
    exact ⟨rfl, Upd.refl _ _⟩
  by_cases h7 : kind = 7
  · subst h7
    go_enter Tryz.func24, Tryz.ntmps24
    go_wp2_with fail
    go_ret
    exact ⟨rfl, Upd.refl _ _⟩
  by_cases h11 : kind = 11
  · subst h11
    go_enter Tryz.func24, Tryz.ntmps24
    go_wp2_with fail
    go_ret
    exact ⟨rfl, Upd.refl _ _⟩
  by_cases h26 : kind = 26
  · subst h26
    go_enter Tryz.func24, Tryz.ntmps24
    go_wp2_with fail
    go_ret
    exact ⟨rfl, Upd.refl _ _⟩
  by_cases h27 : kind = 27
  · subst h27
    go_enter Tryz.func24, Tryz.ntmps24
    go_wp2_with fail
    go_ret
    exact ⟨rfl, Upd.refl _ _⟩
  by_cases h28 : kind = 28
  · subst h28
    go_enter Tryz.func24, Tryz.ntmps24
    go_wp2_with fail
    go_ret
    exact ⟨rfl, Upd.refl _ _⟩
  by_cases h30 : kind = 30
  · subst h30
    go_enter Tryz.func24, Tryz.ntmps24
    go_wp2_with fail
    go_ret
    exact ⟨rfl, Upd.refl _ _⟩
  by_cases h31 : kind = 31
  · subst h31
    go_enter Tryz.func24, Tryz.ntmps24
    go_wp2_with fail
    go_ret
    exact ⟨rfl, Upd.refl _ _⟩
  by_cases h33 : kind = 33
  · subst h33
    go_enter Tryz.func24, Tryz.ntmps24
    go_wp2_with fail
    go_ret
    exact ⟨rfl, Upd.refl _ _⟩
  by_cases h34 : kind = 34
  · subst h34
    go_enter Tryz.func24, Tryz.ntmps24
    go_wp2_with fail
    go_ret
    exact ⟨rfl, Upd.refl _ _⟩
  by_cases h35 : kind = 35
  · subst h35
    go_enter Tryz.func24, Tryz.ntmps24
    go_wp2_with fail
    go_ret
    exact ⟨rfl, Upd.refl _ _⟩
  by_cases h36 : kind = 36
  · subst h36
    go_enter Tryz.func24, Tryz.ntmps24
    go_wp2_with fail
    go_ret
    exact ⟨rfl, Upd.refl _ _⟩
  rw [avpLen_none kind h0 h2 h9 h10 h14 h29 h32 h3 h15 h19 h24 h5 h13 h39 h1 h7 h11 h26 h27 h28 h30 h31 h33 h34 h35 h36]
  replace h0 : (kind == 0) = false := by simpa using h0
  replace h2 : (kind == 2) = false := by simpa using h2
  replace h9 : (kind == 9) = false := by simpa using h9
  replace h10 : (kind == 10) = false := by simpa using h10
  replace h14 : (kind == 14) = false := by simpa using h14
  replace h29 : (kind == 29) = false := by simpa using h29
  replace h32 : (kind == 32) = false := by simpa using h32
  replace h3 : (kind == 3) = false := by simpa using h3
  replace h15 : (kind == 15) = false := by simpa using h15
  replace h19 : (kind == 19) = false := by simpa using h19
  replace h24 : (kind == 24) = false := by simpa using h24
  replace h5 : (kind == 5) = false := by simpa using h5
  replace h13 : (kind == 13) = false := by simpa using h13
  replace h39 : (kind == 39) = false := by simpa using h39
  replace h1 : (kind == 1) = false := by simpa using h1
  replace h7 : (kind == 7) = false := by simpa using h7
  replace h11 : (kind == 11) = false := by simpa using h11
  replace h26 : (kind == 26) = false := by simpa using h26
  replace h27 : (kind == 27) = false := by simpa using h27
  replace h28 : (kind == 28) = false := by simpa using h28
  replace h30 : (kind == 30) = false := by simpa using h30
  replace h31 : (kind == 31) = false := by simpa using h31
  replace h33 : (kind == 33) = false := by simpa using h33
  replace h34 : (kind == 34) = false := by simpa using h34
  replace h35 : (kind == 35) = false := by simpa using h35
  replace h36 : (kind == 36) = false := by simpa using h36
  go_enter Tryz.func24, Tryz.ntmps24
  go_wp2_with fail
  go_ret
  exact ⟨rfl, Upd.refl _ _⟩
end Go.Proofs.YtfbdbebahpemhaaGreat
namespace Go.Proofs.YtfbdbebahpemhaaGreat
open Go.RowKit
set_option linter.unusedSimpArgs false
set_option linter.unusedVariables false
set_option maxRecDepth 100000

set_option maxHeartbeats 1000000 in
theorem rnum18_out (kind v n : Int) (hn : ¬ (1 ≤ n ∧ n ≤ 8)) (w : World) :
    Calls Tryz.prog 22 #[.int .i64 kind, .int .i64 v, .int .i64 n] w fun e w' => e = .returned (.agg #[.bool true, .bool false, .int .i64 0, .int .i64 kind, .string ⟨#[]⟩]) ∧ Upd [] w w' := by
  have key : (n < 1) ∨ (1 ≤ n ∧ 8 < n) := by omega
  rcases key with k1 | ⟨k1, k2⟩
  · have u1 : ¬ (1 ≤ n) := by omega
    clear hn
    go_enter Tryz.func22, Tryz.ntmps22
    go_wp2_with fail
    exact bodyPost_ret (v := .agg #[.bool true, .bool false, .int .i64 0, .int .i64 kind, .string ⟨#[]⟩]) (by simp [results, Tryz.results22, go_sem]) rfl ⟨rfl, by repeat (with_reducible first | exact Upd.refl _ _ | refine Upd.alloc _ ?_ | refine Upd.setCell _ ?_ (.inr (by simp)))⟩
  · have u2 : ¬ (n ≤ 8) := by omega
    clear hn
    go_enter Tryz.func22, Tryz.ntmps22
    go_wp2_with fail
    exact bodyPost_ret (v := .agg #[.bool true, .bool false, .int .i64 0, .int .i64 kind, .string ⟨#[]⟩]) (by simp [results, Tryz.results22, go_sem]) rfl ⟨rfl, by repeat (with_reducible first | exact Upd.refl _ _ | refine Upd.alloc _ ?_ | refine Upd.setCell _ ?_ (.inr (by simp)))⟩
set_option maxHeartbeats 1000000 in
theorem num_out (kind v n : Int) (hn : ¬ (1 ≤ n ∧ n ≤ 8)) (w : World) :
    Calls Tryz.prog 21 #[.int .i64 kind, .int .i64 v, .int .i64 n] w fun e w' => e = .returned (.agg #[.bool true, .bool false, .int .i64 0, .int .i64 kind, .string ⟨#[]⟩]) ∧ Upd [] w w' := by
  have hin : (decide (1 ≤ n) && decide (n ≤ 8)) = false := by simp; omega
  clear hn
  go_enter Tryz.func21, Tryz.ntmps21
  go_wp2_with fail
  refine (avpIn_any _ _ _ _).mono ?_
  rintro e w' ⟨rfl, rfl⟩
  rw [hin]
  go_wp2_with fail
  exact bodyPost_ret (v := .agg #[.bool true, .bool false, .int .i64 0, .int .i64 kind, .string ⟨#[]⟩]) (by simp [results, Tryz.results21, go_sem]) rfl ⟨rfl, by repeat (with_reducible first | exact Upd.refl _ _ | refine Upd.alloc _ ?_ | refine Upd.setCell _ ?_ (.inr (by simp)))⟩
end Go.Proofs.YtfbdbebahpemhaaGreat
namespace Go.Proofs.YtfbdbebahpemhaaGreat
open Go.RowKit
set_option linter.unusedSimpArgs false
set_option linter.unusedVariables false
set_option maxRecDepth 100000

set_option maxHeartbeats 2000000 in
theorem rsame18_any (l m : List Av) (v u : Value) (w : World) (hl : AvsAt w v l) (hm : AvsAt w u m) :
    Calls Tryz.prog 17 #[v, u] w fun e w' => e = .returned (.bool (decide (l = m))) ∧ Upd [] w w' := by
  obtain ⟨ao, cap, rfl, h1, h2, h3⟩ := id hl
  obtain ⟨bo, cbp, rfl, g1, g2, g3⟩ := id hm
  obtain ⟨r, hr⟩ : ∃ r, decide (l = m) = r := ⟨_, rfl⟩
  rw [hr]
  have HR := Lib.hid hr
  have HL := Lib.hid hl
  have HM := Lib.hid hm
  obtain ⟨n, hn⟩ : ∃ n, n = l.length := ⟨_, rfl⟩
  obtain ⟨n', hn'⟩ : ∃ n', n' = m.length := ⟨_, rfl⟩
  rw [← hn] at h1 ⊢
  rw [← hn'] at g1 ⊢
  simp only [maxLen] at h2 g2
  by_cases e : n = n'
  · subst e
    have HN := Lib.hid hn
    have HN' := Lib.hid hn'
    clear h3 g3 hl hm hn hn' hr
    go_enter Tryz.func17, Tryz.ntmps17
    go_wp2_with fail
    go_loopg [5] n (fun p s5 wr => ∃ k : Nat, k + p = n ∧ s5 = .int .i64 k ∧ l.take k = m.take k ∧ Upd [] w wr)
    case atStart => exact ⟨0, by omega, rfl, rfl, Upd.refl _ _⟩
    case round =>
      obtain ⟨k, hk, rfl, ht, hu⟩ := hrel
      by_cases t : k < n
      · obtain ⟨x, hx⟩ : ∃ x, l[k]? = some x := ⟨_, List.getElem?_eq_getElem (by have := HN.out; omega)⟩
        obtain ⟨y, hy⟩ : ∃ y, m[k]? = some y := ⟨_, List.getElem?_eq_getElem (by have := HN'.out; omega)⟩
        obtain ⟨ao', cap', e0, _, _, h3⟩ := HL.out.upd hu
        injection e0 with e0 _ e2
        subst e0 e2
        obtain ⟨q, rfl, c0, c1, c2, c3, c4⟩ := h3 k x hx
        obtain ⟨bo', cbp', e0, _, _, g3⟩ := HM.out.upd hu
        injection e0 with e0 _ e2
        subst e0 e2
        obtain ⟨q', rfl, d0, d1, d2, d3, d4⟩ := g3 k y hy
        have HU := Lib.hid hu
        have HT := Lib.hid ht
        have HX := Lib.hid hx
        have HY := Lib.hid hy
        clear h3 g3 hx hy hu ht
        by_cases exy : x = y
        · subst exy
          go_wp2_with fail
          go_region
          go_wp2_with fail
          go_roundg (n - (k + 1))
          case rel =>
            refine ⟨k + 1, by omega, by go_num, ?_, HU.out.drew⟩
            rw [List.take_add_one, List.take_add_one, HT.out, HX.out, HY.out]
          case measure => omega
        · have HNE : Hid (r = false) := by
            show _ = _
            rw [← HR.out, decide_eq_false_iff_not]
            rintro rfl
            have := HX.out.symm.trans HY.out
            exact exy (Option.some.inj this)
          obtain ⟨x0, x1, x2, x3, x4⟩ := x
          obtain ⟨y0, y1, y2, y3, y4⟩ := y
          simp only [Av.mk.injEq] at exy
          dsimp only at c0 c1 c2 c3 c4 d0 d1 d2 d3 d4
          by_cases f0 : x0 = y0
          rotate_left
          · have g0 : (x0 == y0) = false := by simpa using f0
            clear exy
            go_wp2_with fail
            go_region
            go_wp2_with fail
            go_ret
            exact ⟨by rw [HNE.out]; rfl, HU.out.drew⟩
          subst f0
          by_cases f1 : x1 = y1
          rotate_left
          · have g1 : (x1 == y1) = false := by simpa using f1
            clear exy
            go_wp2_with fail
            go_region
            go_wp2_with fail
            go_ret
            exact ⟨by rw [HNE.out]; rfl, HU.out.drew⟩
          subst f1
          by_cases f2 : x2 = y2
          rotate_left
          · have g2 : (x2 == y2) = false := by simpa using f2
            clear exy
            go_wp2_with fail
            go_region
            go_wp2_with fail
            go_ret
            exact ⟨by rw [HNE.out]; rfl, HU.out.drew⟩
          subst f2
          by_cases f3 : x3 = y3
          rotate_left
          · have g3 : (x3 == y3) = false := by simpa using f3
            clear exy
            go_wp2_with fail
            go_region
            go_wp2_with fail
            go_ret
            exact ⟨by rw [HNE.out]; rfl, HU.out.drew⟩
          subst f3
          by_cases f4 : x4 = y4
          rotate_left
          · have g4 : ¬ x4.toList = y4.toList := by rw [str_inj']; exact f4
            clear exy
            go_wp2_with fail
            go_region
            go_wp2_with fail
            go_ret
            exact ⟨by rw [HNE.out]; rfl, HU.out.drew⟩
          subst f4
          exact absurd ⟨rfl, rfl, rfl, rfl, rfl⟩ exy
      · obtain rfl : k = n := by omega
        have HT : Hid (r = true) := by
          show _ = _
          rw [← HR.out, decide_eq_true_iff]
          have h5 := ht
          rw [List.take_of_length_le (by rw [← HN.out]; exact Nat.le_refl _), List.take_of_length_le (by rw [← HN'.out]; exact Nat.le_refl _)] at h5
          exact h5
        have HU := Lib.hid hu
        clear ht hu
        go_wp2_with fail
        go_ret
        exact ⟨by rw [HT.out]; rfl, HU.out⟩
  · have HNE : Hid (r = false) := by
      show _ = _
      rw [← hr, decide_eq_false_iff_not]
      rintro rfl
      exact e (hn.trans hn'.symm)
    rw [HNE.out]
    clear h3 g3 hl hm hn hn' hr
    have e' : ¬ ((n : Int) = n') := by omega
    go_enter Tryz.func17, Tryz.ntmps17
    go_wp2_with fail
    go_ret
    exact ⟨rfl, Upd.refl _ _⟩
end Go.Proofs.YtfbdbebahpemhaaGreat
