/- The walk of msg.Check. -/
import Derived.Test.YtcplhlokbnaabaaMsgB
namespace Go.Proofs.Ytcplhlokbnaabaa
open Go.RowKit
set_option maxRecDepth 20000
set_option linter.unusedSimpArgs false
set_option linter.unusedVariables false

def badOf : List Av → Int
  | [] => 0
  | a :: r => if wrongAv a = 0 then badOf r else wrongAv a
def needOf (l : List Av) : List Int → Int
  | [] => 0
  | k :: r => if (findAv k l).2 = true then needOf l r else 40
def checkOf (l : List Av) : Int := match l with
  | [] => 0
  | _ :: r => match needsOf (kindOf l) with
    | none => 40
    | some ns => if badOf r = 0 then needOf l ns else badOf r
theorem avs_drop1 {w : World} {q : Addr} {n cap : Nat} {l : List Av} (h : AvsAt w (.slice (some q) n cap) l) (hl : 1 ≤ l.length) : AvsAt w (.slice (some (if cap = 1 then q else q.add 5)) (n - 1) (cap - 1)) (l.drop 1) := by
  have h1 := h.drop 1 hl
  obtain ⟨_, _, e, _⟩ := h
  injection e with _ e _
  subst e
  have : (if cap = 1 then some q else some (q.add (1 * 5))) = some (if cap = 1 then q else q.add 5) := by split <;> rfl
  rwa [this] at h1
theorem add5 (q : Addr) : q.add 5 = ⟨q.block, q.off + 5, none⟩ := by
  have := add_off q 0 5 (by omega)
  rwa [show q.add 0 = q by unfold Addr.add; split <;> simp_all] at this
set_option maxHeartbeats 4000000 in
theorem check_any (t s ns nr : Int) (v : Value) (l : List Av) (w : World) (hl : AvsAt w v l) (hs : ∀ a ∈ l, a.val.size ≤ maxLen) :
    Calls Try.prog 10 #[.agg #[.int .i64 t, .int .i64 s, .int .i64 ns, .int .i64 nr, v]] w fun e w' => e = .returned (.int .i64 (checkOf l)) ∧ Upd [] w w' := by
  by_cases hl0 : l = []
  · subst hl0
    obtain ⟨ao, cap, rfl, h1, h2, -⟩ := hl
    simp only [checkOf, List.length_nil] at h1 ⊢
    go_enter Try.func10, Try.ntmps10
    go_wp2
    go_ret
    exact ⟨rfl, (Upd.refl _ _).alloc _⟩
  obtain ⟨a0, r, hr⟩ : ∃ a r, l = a :: r := List.exists_cons_of_ne_nil hl0
  have HCK : Hid (checkOf l = match needsOf (kindOf l) with | none => 40 | some ns => if badOf r = 0 then needOf l ns else badOf r) := by rw [hr]; exact rfl
  have HD : Hid (l.drop 1 = r) := by show _ = _; rw [hr]; rfl
  have HS := Lib.hid hs
  have hn1 : 1 ≤ l.length := by rw [hr]; simp
  obtain ⟨ao, cap, rfl, h1, h2, h3⟩ := id hl
  obtain ⟨q, rfl, -⟩ := h3 0 a0 (by rw [hr]; rfl)
  obtain ⟨n, hn⟩ : ∃ n, n = l.length := ⟨_, rfl⟩
  rw [← hn] at h1 hn1 hl
  simp only [← hn]
  have HL := Lib.hid hl
  have HN := Lib.hid hn
  simp only [maxLen] at h2
  have HC : Hid (∀ W, Upd [] (w.alloc (.cells #[.int .i64 t, .int .i64 s, .int .i64 ns, .int .i64 nr, .slice (some q) n cap] 33)) W → W.cell? ⟨w.heap.size, 4, none⟩ = some (.slice (some q) n cap)) := by
    intro W hu
    exact ((Blk.new w 33 #[.int .i64 t, .int .i64 s, .int .i64 ns, .int .i64 nr, .slice (some q) n cap]).upd hu (by simp)).cell 4
  have U1 := Lib.hid ((Upd.refl [] w).alloc (.cells #[.int .i64 t, .int .i64 s, .int .i64 ns, .int .i64 nr, .slice (some q) n cap] 33))
  clear hl hn h3 hr hl0 hs
  cases hN : needsOf (kindOf l)
  case none =>
    have HK := Lib.hid hN
    clear hN
    go_enter Try.func10, Try.ntmps10
    go_wp2_with fail
    refine (kind_any t s ns nr _ l _ (HL.out.upd U1.out) HS.out).mono ?_
    rintro e w1 ⟨rfl, hu1⟩
    have HU1 := Lib.hid hu1
    clear hu1
    go_wp2_with fail
    refine (known_any _ _).mono ?_
    rintro e w2 ⟨vn, rfl, hin, hu2⟩
    have HU2 := Lib.hid (HU1.out.trans hu2)
    rw [HK.out]
    simp only [Option.isSome_none]
    clear hu2 hin
    go_wp2_with fail
    go_ret
    rw [HCK.out, HK.out]
    exact ⟨rfl, U1.out.trans HU2.out⟩
  case some nl =>
    have HK := Lib.hid hN
    clear hN
    go_enter Try.func10, Try.ntmps10
    go_wp2_with fail
    refine (kind_any t s ns nr _ l _ (HL.out.upd U1.out) HS.out).mono ?_
    rintro e w1 ⟨rfl, hu1⟩
    have HU1 := Lib.hid hu1
    clear hu1
    go_wp2_with fail
    refine (known_any _ _).mono ?_
    rintro e w2 ⟨vn, rfl, hin, hu2⟩
    have HU2 := Lib.hid (HU1.out.trans hu2)
    have hc := HC.out _ HU2.out
    rw [HK.out] at hin ⊢
    simp only [Option.isSome_some, Option.getD_some] at hin ⊢
    obtain ⟨bo, cbp, rfl, i1, i2, -⟩ := id hin
    obtain ⟨j, hj⟩ : ∃ j, j = nl.length := ⟨_, rfl⟩
    rw [← hj] at i1 hin
    simp only [← hj]
    have HIN := Lib.hid hin
    have HJ := Lib.hid hj
    clear hj
    simp only [maxLen] at i2
    clear hu2 hin
    go_wp2_with fail
    case inl h =>
      subst h
      have H1 := Lib.hid h1
      clear h1
      have HR : Hid (AvsAt w2 (.slice (some q) (n - 1) 0) r) := by
        show AvsAt _ _ _
        have h9 := avs_drop1 HL.out (by rw [← HN.out]; exact hn1)
        rw [HD.out] at h9
        have h8 := (h9.upd U1.out).upd HU2.out
        simpa [add5] using h8
      have HRL : Hid (n - 1 = r.length) := by
        show _ = _
        have h9 := congrArg List.length HD.out
        rw [List.length_drop, ← HN.out] at h9
        exact h9
      go_loopg [28] (n - 1) (fun m s28 wr => ∃ k : Nat, k + m = n - 1 ∧ s28 = .int .i64 k ∧ badOf (r.drop k) = badOf r ∧ Upd [] w2 wr)
      case atStart => exact ⟨0, by omega, rfl, rfl, Upd.refl _ _⟩
      case round =>
        obtain ⟨k, hk, rfl, hbad, hu⟩ := hrel
        by_cases tk : k < n - 1
        · exfalso; have := H1.out; omega
        · obtain rfl : k = n - 1 := by omega
          have hd : r.drop (n - 1) = [] := by rw [HRL.out]; simp
          rw [hd, badOf] at hbad
          have HB := Lib.hid hbad
          have HU := Lib.hid hu
          clear hbad hd hu
          go_wp2_with fail
          go_loopg [40] j (fun m s40 wr => ∃ k : Nat, k + m = j ∧ s40 = .int .i64 k ∧ needOf l (nl.drop k) = needOf l nl ∧ Upd [] w2 wr)
          case atStart => exact ⟨0, by omega, rfl, rfl, HU.out⟩
          case round =>
            obtain ⟨k, hk, rfl, hneed, hu⟩ := hrel
            by_cases tk2 : k < j
            · obtain ⟨x, hx⟩ : ∃ x, nl[k]? = some x := ⟨_, List.getElem?_eq_getElem (by rw [← HJ.out]; exact tk2)⟩
              obtain ⟨ao', cap', e0, -, -, h3⟩ := HIN.out.upd hu
              injection e0 with e0 e1 e2
              clear e1
              subst e0 e2
              obtain ⟨q', rfl, c0⟩ := h3 k x hx
              have hcc := HC.out _ (HU2.out.trans hu)
              have hd : nl.drop k = x :: nl.drop (k + 1) := by
                obtain ⟨h5, h6⟩ := List.getElem?_eq_some_iff.1 hx
                rw [List.drop_eq_getElem_cons h5, h6]
              rw [hd, needOf] at hneed
              have HE := Lib.hid hneed
              have HU5 := Lib.hid hu
              clear hneed hd hu hx h3
              have hfd := fun (v : Value) (W : World) (hl : AvsAt W v l) => avFind_any l v x W hl
              obtain ⟨fs, fb, hf⟩ : ∃ fs fb, findAv x l = (fs, fb) := ⟨_, _, rfl⟩
              rw [hf] at hfd
              have HFD := Lib.hid hfd
              have HF := Lib.hid hf
              clear hfd hf
              cases fb
              · go_wp2_with fail
                refine (HFD.out _ _ (((HL.out.upd U1.out).upd HU2.out).upd HU5.out)).mono ?_
                rintro e w' ⟨rfl, hu2⟩
                have HU6 := Lib.hid (HU5.out.trans hu2)
                clear hu2
                go_wp2_with fail
                go_ret
                refine ⟨?_, U1.out.trans (HU2.out.trans HU6.out)⟩
                have h9 := HE.out
                rw [HF.out, if_neg (by simp)] at h9
                rw [HCK.out, HK.out]
                simp only [← HB.out, if_true, ← h9]
                try rfl
              · go_wp2_with fail
                refine (HFD.out _ _ (((HL.out.upd U1.out).upd HU2.out).upd HU5.out)).mono ?_
                rintro e w' ⟨rfl, hu2⟩
                have HU6 := Lib.hid (HU5.out.trans hu2)
                clear hu2
                go_wp2_with fail
                go_roundg (j - (k + 1))
                case rel => exact ⟨k + 1, by omega, by go_num, by rw [← HE.out, if_pos (by rw [HF.out])], HU6.out⟩
                case measure => omega
            · obtain rfl : k = j := by omega
              have hd : nl.drop k = [] := by rw [HJ.out]; simp
              rw [hd, needOf] at hneed
              have HE := Lib.hid hneed
              have HU4 := Lib.hid hu
              clear hneed hd hu
              go_wp2_with fail
              go_ret
              refine ⟨?_, U1.out.trans (HU2.out.trans HU4.out)⟩
              rw [HCK.out, HK.out]
              simp only [← HB.out, if_true, ← HE.out]
              try rfl
    case inr h =>
      have HR : Hid (AvsAt w2 (.slice (some ⟨q.block, q.off + 5, none⟩) (n - 1) (cap - 1)) r) := by
        show AvsAt _ _ _
        have h9 := avs_drop1 HL.out (by rw [← HN.out]; exact hn1)
        rw [HD.out] at h9
        have h8 := (h9.upd U1.out).upd HU2.out
        simpa [h, add5] using h8
      have HRL : Hid (n - 1 = r.length) := by
        show _ = _
        have h9 := congrArg List.length HD.out
        rw [List.length_drop, ← HN.out] at h9
        exact h9
      go_loopg [28] (n - 1) (fun m s28 wr => ∃ k : Nat, k + m = n - 1 ∧ s28 = .int .i64 k ∧ badOf (r.drop k) = badOf r ∧ Upd [] w2 wr)
      case atStart => exact ⟨0, by omega, rfl, rfl, Upd.refl _ _⟩
      case round =>
        obtain ⟨k, hk, rfl, hbad, hu⟩ := hrel
        by_cases tk : k < n - 1
        · obtain ⟨x, hx⟩ : ∃ x, r[k]? = some x := by
            have := HRL.out
            exact ⟨_, List.getElem?_eq_getElem (by omega)⟩
          obtain ⟨ao', cap', e0, -, -, h3⟩ := HR.out.upd hu
          injection e0 with e0 e1 e2
          clear e1
          subst e0 e2
          obtain ⟨q', e0, c0, c1, c2, c3, c4⟩ := h3 k x hx
          injection e0 with e0
          subst e0
          simp only [add_plain'] at c0 c1 c2 c3 c4
          clear h3
          have hd : r.drop k = x :: r.drop (k + 1) := by
            obtain ⟨h5, h6⟩ := List.getElem?_eq_some_iff.1 hx
            rw [List.drop_eq_getElem_cons h5, h6]
          rw [hd, badOf] at hbad
          have HB := Lib.hid hbad
          have HU := Lib.hid hu
          clear hbad hd hu hx
          have hw := fun W => wrong_any x W
          obtain ⟨z, hz⟩ : ∃ z, z = wrongAv x := ⟨_, rfl⟩
          simp only [← hz, Av.agg] at hw
          have HW := Lib.hid hw
          have HZ := Lib.hid hz
          clear hw hz
          by_cases tz : z = 0
          · go_wp2_with fail
            refine (HW.out _).mono ?_
            rintro e w' ⟨rfl, hu2⟩
            have HU3 := Lib.hid ((HU.out.alloc _).trans hu2)
            clear hu2
            go_wp2_with fail
            go_roundg (n - 1 - (k + 1))
            case rel => exact ⟨k + 1, by omega, by go_num, by rw [← HB.out, if_pos (HZ.out.symm.trans tz)], HU3.out⟩
            case measure => omega
          · go_wp2_with fail
            refine (HW.out _).mono ?_
            rintro e w' ⟨rfl, hu2⟩
            have HU3 := Lib.hid ((HU.out.alloc _).trans hu2)
            clear hu2
            go_wp2_with fail
            go_ret
            refine ⟨?_, U1.out.trans (HU2.out.trans HU3.out)⟩
            have h9 := HB.out
            rw [← HZ.out, if_neg tz] at h9
            rw [HCK.out, HK.out]
            simp only [← h9, if_neg tz]
            try rfl
        · obtain rfl : k = n - 1 := by omega
          have hd : r.drop (n - 1) = [] := by rw [HRL.out]; simp
          rw [hd, badOf] at hbad
          have HB := Lib.hid hbad
          have HU := Lib.hid hu
          clear hbad hd hu
          go_wp2_with fail
          go_loopg [40] j (fun m s40 wr => ∃ k : Nat, k + m = j ∧ s40 = .int .i64 k ∧ needOf l (nl.drop k) = needOf l nl ∧ Upd [] w2 wr)
          case atStart => exact ⟨0, by omega, rfl, rfl, HU.out⟩
          case round =>
            obtain ⟨k, hk, rfl, hneed, hu⟩ := hrel
            by_cases tk2 : k < j
            · obtain ⟨x, hx⟩ : ∃ x, nl[k]? = some x := ⟨_, List.getElem?_eq_getElem (by rw [← HJ.out]; exact tk2)⟩
              obtain ⟨ao', cap', e0, -, -, h3⟩ := HIN.out.upd hu
              injection e0 with e0 e1 e2
              clear e1
              subst e0 e2
              obtain ⟨q', rfl, c0⟩ := h3 k x hx
              have hcc := HC.out _ (HU2.out.trans hu)
              have hd : nl.drop k = x :: nl.drop (k + 1) := by
                obtain ⟨h5, h6⟩ := List.getElem?_eq_some_iff.1 hx
                rw [List.drop_eq_getElem_cons h5, h6]
              rw [hd, needOf] at hneed
              have HE := Lib.hid hneed
              have HU5 := Lib.hid hu
              clear hneed hd hu hx h3
              have hfd := fun (v : Value) (W : World) (hl : AvsAt W v l) => avFind_any l v x W hl
              obtain ⟨fs, fb, hf⟩ : ∃ fs fb, findAv x l = (fs, fb) := ⟨_, _, rfl⟩
              rw [hf] at hfd
              have HFD := Lib.hid hfd
              have HF := Lib.hid hf
              clear hfd hf
              cases fb
              · go_wp2_with fail
                refine (HFD.out _ _ (((HL.out.upd U1.out).upd HU2.out).upd HU5.out)).mono ?_
                rintro e w' ⟨rfl, hu2⟩
                have HU6 := Lib.hid (HU5.out.trans hu2)
                clear hu2
                go_wp2_with fail
                go_ret
                refine ⟨?_, U1.out.trans (HU2.out.trans HU6.out)⟩
                have h9 := HE.out
                rw [HF.out, if_neg (by simp)] at h9
                rw [HCK.out, HK.out]
                simp only [← HB.out, if_true, ← h9]
                try rfl
              · go_wp2_with fail
                refine (HFD.out _ _ (((HL.out.upd U1.out).upd HU2.out).upd HU5.out)).mono ?_
                rintro e w' ⟨rfl, hu2⟩
                have HU6 := Lib.hid (HU5.out.trans hu2)
                clear hu2
                go_wp2_with fail
                go_roundg (j - (k + 1))
                case rel => exact ⟨k + 1, by omega, by go_num, by rw [← HE.out, if_pos (by rw [HF.out])], HU6.out⟩
                case measure => omega
            · obtain rfl : k = j := by omega
              have hd : nl.drop k = [] := by rw [HJ.out]; simp
              rw [hd, needOf] at hneed
              have HE := Lib.hid hneed
              have HU4 := Lib.hid hu
              clear hneed hd hu
              go_wp2_with fail
              go_ret
              refine ⟨?_, U1.out.trans (HU2.out.trans HU4.out)⟩
              rw [HCK.out, HK.out]
              simp only [← HB.out, if_true, ← HE.out]
              try rfl
end Go.Proofs.Ytcplhlokbnaabaa
