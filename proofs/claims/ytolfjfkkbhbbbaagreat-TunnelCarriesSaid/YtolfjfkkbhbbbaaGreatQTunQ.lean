/- The walks of a tunnel's replied, connected. The walks of msg.IsCall, msg.Values, of a tunnel's yields, handle. The walk of a tunnel's handle. -/
import Derived.Test.YtolfjfkkbhbbbaaGreatQTunM
import Derived.Test.YtolfjfkkbhbbbaaGreatQMsgH
namespace Go.Proofs.YtolfjfkkbhbbbaaGreat
open Go.RowKit
set_option linter.unusedSimpArgs false
set_option linter.unusedVariables false
set_option maxRecDepth 100000

theorem bool_f {b : Bool} (h : ¬ b = true) : b = false := by simpa using h
set_option maxHeartbeats 4000000 in
theorem treplied_any {w : World} {b : Nat} {t : Tn} {own : List Nat} {c : Cm} {v : Value} {ol : List Nat} (h : Msg w b t own v c.l ol) (hz : t.secret.size ≤ 60) (ha : t.asked.size ≤ 400000) :
    Calls Tryz.prog 80 #[.pointer (some ⟨b, 0, none⟩), c.val v] w (TunEnd w b own (t.replied c.l) (.tuple #[])) := by
  have HM := Lib.hid h
  have HWH := Lib.hid (t.who_heard c.l h.hs)
  have HW0 : Hid (∀ W own v, Msg W b t own v c.l ol → Calls Tryz.prog 102 #[.pointer (some ⟨b, 0, none⟩), c.val v] W (TunEnd W b own (t.who c.l).1 (.bool (t.who c.l).2))) := fun W own v h => twho_any h hz
  obtain ⟨ao, cap, rfl, -, -⟩ := h.o.shape
  obtain ⟨ln, hln⟩ : ∃ ln, c.l.length = ln := ⟨_, rfl⟩
  rw [hln] at HM
  rw [hln]
  clear h hln
  simp only [Cm.val] at HW0 ⊢
  obtain ⟨R, hR⟩ : ∃ R, t.replied c.l = R := ⟨_, rfl⟩
  have HR : Hid (R = if (t.who c.l).2 = false then (t.who c.l).1 else (t.who c.l).1.replied1 c.l) := hR.symm
  rw [hR]
  generalize t.who c.l = p at *
  obtain ⟨P, q⟩ := p
  dsimp only at HW0 HR HWH
  have HZ1 : Hid (P.secret.size ≤ 60) := by show _ ≤ _; rw [show P.secret = t.secret from HWH.out.secret]; exact hz
  have HAS : Hid (P.asked.size ≤ 400000) := by show _ ≤ _; rw [show P.asked = t.asked from HWH.out.asked]; exact ha
  obtain ⟨s13, hs13⟩ : ∃ x, (findAv 13 c.l).1 = x := ⟨_, rfl⟩
  obtain ⟨r, hr⟩ : ∃ x, (findAv 13 c.l).2 = x := ⟨_, rfl⟩
  have HF : Hid (∀ W (V : Value), AvsAt W V c.l → Calls Tryz.prog 74 #[V, .int .i64 13] W fun e w' => e = .returned (.tuple #[.string s13, .bool r]) ∧ Upd [] W w') := by
    intro W V hV
    have h := avFind_any c.l V 13 W hV
    rw [hs13, hr] at h
    exact h
  have HRR : Hid ((findAv 13 c.l).2 = r) := hr
  clear hR hz ha hs13 hr
  go_enter Tryz.func80, Tryz.ntmps80
  go_wp2_with fail
  obtain ⟨w0, hw0⟩ : ∃ w0, w.alloc (Obj.cells #[.int .i64 c.t, .int .i64 c.s, .int .i64 c.ns, .int .i64 c.nr, .slice ao ln cap] 55) = w0 := ⟨_, rfl⟩
  have S0 := Lib.hid (Whs.begin HM.out hw0)
  obtain ⟨g, hg⟩ : ∃ g, w.heap.size = g := ⟨_, rfl⟩
  rw [hg] at S0
  rw [hw0, hg]
  clear hw0 hg
  refine (HW0.out _ _ _ S0.out.m).mono ?_
  rintro e w1 ⟨rfl, ⟨own1, k1, k2⟩, k3⟩
  have S1 := Lib.hid (S0.out.next k1 k2 k3)
  clear k1 k2 k3 HW0
  cases q
  · have HRF := Lib.hid (HR.out.trans (if_pos rfl))
    clear HR
    go_wp2_with fail
    have k := S1.out.ret (.tuple #[])
    rw [HRF.out]
    exact bodyPost_ret (results_none rfl _ _ _) rfl k
  have HRT := Lib.hid (HR.out.trans (if_neg (by simp)))
  clear HR
  have c4 := S1.out.x.c4
  go_wp2_with fail
  refine (HF.out _ _ S1.out.m.avs).mono ?_
  rintro e w2 ⟨rfl, u2⟩
  have S2 := Lib.hid (S1.out.keep u2)
  have c1 := S2.out.m.at_.cellAt 1 (.string P.secret) (fun _ _ => rfl)
  have c16 := S2.out.m.at_.cellAt 16 (.bool P.challenged) (fun _ _ => rfl)
  have b0 := S2.out.x.cell 0
  have b1 := S2.out.x.cell 1
  have b2 := S2.out.x.cell 2
  have b3 := S2.out.x.cell 3
  have b4 := S2.out.x.cell 4
  simp only [List.size_toArray, List.length_cons, List.length_nil, List.getElem?_toArray, List.getElem?_cons_zero, List.getElem?_cons_succ] at b0 b1 b2 b3 b4
  have HPV : Hid (∀ W own v, Msg W b P own v c.l ol → Calls Tryz.prog 104 #[.pointer (some ⟨b, 0, none⟩), c.val v, .int .i64 2] W fun e w' => e = .returned (.bool (P.proves c.l 2)) ∧ Upd [] W w') :=
    fun W own v h => tproves_any h 2 (by omega) HZ1.out HAS.out
  simp only [Cm.val] at HPV
  obtain ⟨pv, hpv⟩ : ∃ x, P.proves c.l 2 = x := ⟨_, rfl⟩
  have HPP := Lib.hid hpv
  rw [hpv] at HPV
  have hend : Hid (∀ W own, TunAt W b P own → Calls Tryz.prog 61 #[.pointer (some ⟨b, 0, none⟩), .int .i64 4] W (TunEnd W b own (P.end_ 4) (.tuple #[]))) := fun W own h => tend_any h 4 (Nat.le_trans HZ1.out (by omega))
  have HTO : Hid (P.to_.size ≤ 400000) := HWH.out.to_
  clear u2 c4 hpv
  by_cases t0 : P.secret.size = 0
  · have e0 := str_empty_t t0
    have T0 := Lib.hid t0
    clear t0
    cases r
    · cases hch : P.challenged
      all_goals
        rw [hch] at c16
        have HCH := Lib.hid hch
        clear hch
      · have s10 := S2.out.m.at_.state
        have f10 := S2.out.m.at_.frozen 10
        go_wp2_with fail
        have HE : Hid ((({ P with state := 3 } : Tn).send 0 (numAv 0 3 2 :: ({ P with state := 3 } : Tn).respond 3)).1 = R) := by show _ = _; rw [HRT.out, Tn.replied1, if_neg (by rw [HCH.out, HRR.out]; simp [T0.out])]
        have S3 := Lib.hid (S2.out.sets 10 (.int .i64 3) { P with state := 3 } (fun _ _ => rfl) rfl rfl)
        have HZ3 : Hid (({ P with state := 3 } : Tn).secret.size ≤ 60) := HZ1.out
        have HT3 : Hid (({ P with state := 3 } : Tn).to_.size ≤ 400000) := HTO.out
        clear hend HPV HRT
        generalize ({ P with state := 3 } : Tn) = P3 at *
        refine (trespond_any S3.out.m.at_ 3 (by omega) (by have := HZ3.out; omega) HT3.out).mono ?_
        obtain ⟨lr, hlr⟩ : ∃ lr, P3.respond 3 = lr := ⟨_, rfl⟩
        have HLR : Hid (lr.length ≤ 1) := by show _ ≤ _; rw [← hlr, Tn.respond]; split <;> simp
        rw [hlr] at HE ⊢
        rintro e w5 ⟨⟨vr, or, rfl, hor, hnr⟩, hu5⟩
        obtain ⟨ar, cr, rfl, -, -⟩ := hor.shape
        have S5 := Lib.hid (S3.out.keep hu5)
        have HML := Lib.hid (make_any 3 lr _ _ (AvsAt.of_own hor) (by have := HLR.out; omega))
        obtain ⟨lnr, hlnr⟩ : ∃ ln, lr.length = ln := ⟨_, rfl⟩
        have HLNR := Lib.hid hlnr
        rw [hlnr] at HML
        rw [hlnr]
        clear hor hnr hu5 hlr hlnr s10 f10
        go_wp2_with fail
        refine HML.out.mono ?_
        rintro e w6 ⟨u, o6, rfl, ho6, -, hu6⟩
        rw [show 1 + lnr = (numAv 0 3 2 :: lr).length by rw [List.length_cons, HLNR.out, Nat.add_comm]] at ho6
        obtain ⟨a6, c6, rfl, -, -⟩ := ho6.shape
        have S6 := Lib.hid (S5.out.keep hu6)
        have HS6 := Lib.hid (tsend_any S6.out.m.at_ 0 (by omega) (numAv 0 3 2 :: lr) _ (AvsAt.of_own ho6) (by have := HZ3.out; omega))
        obtain ⟨ln6, hln6⟩ : ∃ ln, (numAv 0 3 2 :: lr).length = ln := ⟨_, rfl⟩
        rw [hln6] at HS6
        rw [hln6]
        clear ho6 hu6 hln6
        go_wp2_with fail
        refine HS6.out.mono ?_
        rintro e w7 k6
        rw [HE.out] at k6
        obtain ⟨rfl, k6⟩ : e = _ ∧ _ := ⟨k6.e, k6⟩
        go_wp2_with fail
        have k := S6.out.done k6
        exact bodyPost_ret (results_none rfl _ _ _) rfl ⟨rfl, k.ex, k.upd⟩
      · go_wp2_with fail
        have HE : Hid (R = P.end_ 4) := by show _ = _; rw [HRT.out, Tn.replied1, if_pos (by rw [HCH.out, HRR.out]; simp [T0.out])]
        refine (hend.out _ _ S2.out.m.at_).mono ?_
        rintro e w3 k6
        obtain ⟨rfl, k6⟩ : e = _ ∧ _ := ⟨k6.e, k6⟩
        go_wp2_with fail
        have k := S2.out.done k6
        rw [HE.out]
        exact bodyPost_ret (results_none rfl _ _ _) rfl ⟨rfl, k.ex, k.upd⟩
    · go_wp2_with fail
      have HE : Hid (R = P.end_ 4) := by show _ = _; rw [HRT.out, Tn.replied1, if_pos (by rw [HRR.out]; simp [T0.out])]
      refine (hend.out _ _ S2.out.m.at_).mono ?_
      rintro e w3 k6
      obtain ⟨rfl, k6⟩ : e = _ ∧ _ := ⟨k6.e, k6⟩
      go_wp2_with fail
      have k := S2.out.done k6
      rw [HE.out]
      exact bodyPost_ret (results_none rfl _ _ _) rfl ⟨rfl, k.ex, k.upd⟩
  · have e0 := str_empty_f t0
    have T0 := Lib.hid t0
    clear t0
    cases hch : P.challenged
    all_goals
      rw [hch] at c16
      have HCH := Lib.hid hch
      clear hch
    · go_wp2_with fail
      have HE : Hid (R = P.end_ 4) := by show _ = _; rw [HRT.out, Tn.replied1, if_pos (by rw [HCH.out]; simp [T0.out])]
      refine (hend.out _ _ S2.out.m.at_).mono ?_
      rintro e w3 k6
      obtain ⟨rfl, k6⟩ : e = _ ∧ _ := ⟨k6.e, k6⟩
      go_wp2_with fail
      have k := S2.out.done k6
      rw [HE.out]
      exact bodyPost_ret (results_none rfl _ _ _) rfl ⟨rfl, k.ex, k.upd⟩
    · go_wp2_with fail
      refine (HPV.out _ _ _ S2.out.m).mono ?_
      rintro e w4 ⟨rfl, u4⟩
      have S4 := Lib.hid (S2.out.keep u4)
      clear u4 c1 c16 b0 b1 b2 b3 b4
      cases pv
      · go_wp2_with fail
        have HE : Hid (R = P.end_ 4) := by show _ = _; rw [HRT.out, Tn.replied1, if_pos (by rw [HCH.out, HPP.out]; simp [T0.out])]
        refine (hend.out _ _ S4.out.m.at_).mono ?_
        rintro e w3 k6
        obtain ⟨rfl, k6⟩ : e = _ ∧ _ := ⟨k6.e, k6⟩
        go_wp2_with fail
        have k := S4.out.done k6
        rw [HE.out]
        exact bodyPost_ret (results_none rfl _ _ _) rfl ⟨rfl, k.ex, k.upd⟩
      · have s10 := S4.out.m.at_.state
        have f10 := S4.out.m.at_.frozen 10
        go_wp2_with fail
        have HE : Hid ((({ P with state := 3 } : Tn).send 0 (numAv 0 3 2 :: ({ P with state := 3 } : Tn).respond 3)).1 = R) := by show _ = _; rw [HRT.out, Tn.replied1, if_neg (by rw [HCH.out, HPP.out]; simp [T0.out])]
        have S3 := Lib.hid (S4.out.sets 10 (.int .i64 3) { P with state := 3 } (fun _ _ => rfl) rfl rfl)
        have HZ3 : Hid (({ P with state := 3 } : Tn).secret.size ≤ 60) := HZ1.out
        have HT3 : Hid (({ P with state := 3 } : Tn).to_.size ≤ 400000) := HTO.out
        clear hend HPV HRT
        generalize ({ P with state := 3 } : Tn) = P3 at *
        refine (trespond_any S3.out.m.at_ 3 (by omega) (by have := HZ3.out; omega) HT3.out).mono ?_
        obtain ⟨lr, hlr⟩ : ∃ lr, P3.respond 3 = lr := ⟨_, rfl⟩
        have HLR : Hid (lr.length ≤ 1) := by show _ ≤ _; rw [← hlr, Tn.respond]; split <;> simp
        rw [hlr] at HE ⊢
        rintro e w5 ⟨⟨vr, or, rfl, hor, hnr⟩, hu5⟩
        obtain ⟨ar, cr, rfl, -, -⟩ := hor.shape
        have S5 := Lib.hid (S3.out.keep hu5)
        have HML := Lib.hid (make_any 3 lr _ _ (AvsAt.of_own hor) (by have := HLR.out; omega))
        obtain ⟨lnr, hlnr⟩ : ∃ ln, lr.length = ln := ⟨_, rfl⟩
        have HLNR := Lib.hid hlnr
        rw [hlnr] at HML
        rw [hlnr]
        clear hor hnr hu5 hlr hlnr s10 f10
        go_wp2_with fail
        refine HML.out.mono ?_
        rintro e w6 ⟨u, o6, rfl, ho6, -, hu6⟩
        rw [show 1 + lnr = (numAv 0 3 2 :: lr).length by rw [List.length_cons, HLNR.out, Nat.add_comm]] at ho6
        obtain ⟨a6, c6, rfl, -, -⟩ := ho6.shape
        have S6 := Lib.hid (S5.out.keep hu6)
        have HS6 := Lib.hid (tsend_any S6.out.m.at_ 0 (by omega) (numAv 0 3 2 :: lr) _ (AvsAt.of_own ho6) (by have := HZ3.out; omega))
        obtain ⟨ln6, hln6⟩ : ∃ ln, (numAv 0 3 2 :: lr).length = ln := ⟨_, rfl⟩
        rw [hln6] at HS6
        rw [hln6]
        clear ho6 hu6 hln6
        go_wp2_with fail
        refine HS6.out.mono ?_
        rintro e w7 k6
        rw [HE.out] at k6
        obtain ⟨rfl, k6⟩ : e = _ ∧ _ := ⟨k6.e, k6⟩
        go_wp2_with fail
        have k := S6.out.done k6
        exact bodyPost_ret (results_none rfl _ _ _) rfl ⟨rfl, k.ex, k.upd⟩

set_option maxHeartbeats 4000000 in
theorem tconnected_any {w : World} {b : Nat} {t : Tn} {own : List Nat} {c : Cm} {v : Value} {ol : List Nat} (h : Msg w b t own v c.l ol) (hz : t.secret.size ≤ 60) (ha : t.asked.size ≤ 400000) :
    Calls Tryz.prog 81 #[.pointer (some ⟨b, 0, none⟩), c.val v] w (TunEnd w b own (t.connected c.l) (.tuple #[])) := by
  have HM := Lib.hid h
  have HPV : Hid (∀ W own v, Msg W b t own v c.l ol → Calls Tryz.prog 104 #[.pointer (some ⟨b, 0, none⟩), c.val v, .int .i64 3] W fun e w' => e = .returned (.bool (t.proves c.l 3)) ∧ Upd [] W w') :=
    fun W own v h => tproves_any h 3 (by omega) hz ha
  obtain ⟨ao, cap, rfl, -, -⟩ := h.o.shape
  obtain ⟨ln, hln⟩ : ∃ ln, c.l.length = ln := ⟨_, rfl⟩
  rw [hln] at HM
  rw [hln]
  clear h hln
  simp only [Cm.val] at HPV ⊢
  obtain ⟨R, hR⟩ : ∃ R, t.connected c.l = R := ⟨_, rfl⟩
  have HRT : Hid (R = if t.secret.size ≠ 0 ∧ t.proves c.l 3 = false then t.end_ 4 else { t with state := 3 }) := hR.symm
  rw [hR]
  obtain ⟨pv, hpv⟩ : ∃ x, t.proves c.l 3 = x := ⟨_, rfl⟩
  rw [hpv] at HPV HRT
  have hend : Hid (∀ W own, TunAt W b t own → Calls Tryz.prog 61 #[.pointer (some ⟨b, 0, none⟩), .int .i64 4] W (TunEnd W b own (t.end_ 4) (.tuple #[]))) := fun W own h => tend_any h 4 (by omega)
  clear hR hpv hz ha
  by_cases t0 : t.secret.size = 0
  all_goals
    obtain ⟨e0, he0⟩ : ∃ e0, t.secret.toList.isEmpty = e0 := ⟨_, rfl⟩
    have e0' := he0
    first
      | (rw [str_empty_t t0] at e0'; subst e0')
      | (rw [str_empty_f t0] at e0'; subst e0')
    have T0 := Lib.hid t0
    clear t0
    have hb := HM.out.at_.lt b HM.out.at_.mem
    have c1 := HM.out.at_.cellAt 1 (.string t.secret) (fun _ _ => rfl)
    have c10 := HM.out.at_.state
    have f10 := HM.out.at_.frozen 10
    go_enter Tryz.func81, Tryz.ntmps81
    go_wp2_with fail
    obtain ⟨w0, hw0⟩ : ∃ w0, w.alloc (Obj.cells #[.int .i64 c.t, .int .i64 c.s, .int .i64 c.ns, .int .i64 c.nr, .slice ao ln cap] 55) = w0 := ⟨_, rfl⟩
    have S0 := Lib.hid (Whs.begin HM.out hw0)
    obtain ⟨g, hg⟩ : ∃ g, w.heap.size = g := ⟨_, rfl⟩
    rw [hg] at S0
  · clear hw0
    rw [HRT.out, if_neg (by simp [T0.out])]
    exact bodyPost_ret (results_none rfl _ _ _) rfl ⟨rfl, ⟨own, (HM.out.at_.set 10 (.int .i64 3) { t with state := 3 } (fun _ _ => rfl) rfl rfl).keep ((Upd.refl [] _).alloc _), Grew.refl _ _⟩, ((Upd.refl _ w).setCell _ (.inl HM.out.at_.mem)).alloc _⟩
  · rw [hw0, hg]
    clear hw0 hg hb
    refine (HPV.out _ _ _ S0.out.m).mono ?_
    rintro e w4 ⟨rfl, u4⟩
    have S4 := Lib.hid (S0.out.keep u4)
    clear u4 c1 c10 f10
    cases pv
    · go_wp2_with fail

      have HE : Hid (R = t.end_ 4) := by show _ = _; rw [HRT.out, if_pos (by simp [T0.out])]
      refine (hend.out _ _ S4.out.m.at_).mono ?_
      rintro e w3 k6
      obtain ⟨rfl, k6⟩ : e = _ ∧ _ := ⟨k6.e, k6⟩
      go_wp2_with fail
      have k := S4.out.done k6
      rw [HE.out]
      exact bodyPost_ret (results_none rfl _ _ _) rfl ⟨rfl, k.ex, k.upd⟩
    · have s10 := S4.out.m.at_.state
      have f10 := S4.out.m.at_.frozen 10
      go_wp2_with fail
      rw [HRT.out, if_neg (by simp)]
      have k := (S4.out.sets 10 (.int .i64 3) { t with state := 3 } (fun _ _ => rfl) rfl rfl).ret (.tuple #[])
      exact bodyPost_ret (results_none rfl _ _ _) rfl k
end Go.Proofs.YtolfjfkkbhbbbaaGreat
namespace Go.Proofs.YtolfjfkkbhbbbaaGreat
open Go.RowKit
set_option linter.unusedSimpArgs false
set_option linter.unusedVariables false
set_option maxRecDepth 100000

set_option maxHeartbeats 1000000 in
theorem isCall_any (k : Int) (w : World) :
    Calls Tryz.prog 77 #[.int .i64 k] w fun e w' => e = .returned (.bool (isCallK k)) ∧ Upd [] w w' := by
  have HK : Hid (isCallK k = ((needsOf k).isSome && decide (7 ≤ k))) := rfl
  rw [HK.out]
  have H := Lib.hid (known_any k w)
  generalize (needsOf k).getD [] = l at *
  generalize (needsOf k).isSome = s at *
  clear HK
  cases s
  all_goals
    go_enter Tryz.func77, Tryz.ntmps77
    go_wp2_with fail
    refine H.out.mono ?_
    rintro e w' ⟨v, rfl, hi, hu⟩
    obtain ⟨ao, cap, rfl, -, -, -⟩ := hi
    generalize l.length = n at *
    go_wp2_with fail
    go_ret
    exact ⟨by simp, hu⟩

set_option maxHeartbeats 1000000 in
theorem values_any (b : ByteArray) (hs : b.size ≤ 400000) (h12 : 12 ≤ num b 2 2) (hb : num b 2 2 ≤ b.size) (w : World) :
    Calls Tryz.prog 49 #[.string b] w fun e w' => e = .returned (.string (b.extract 12 (num b 2 2).toNat)) ∧ Upd [] w w' := by
  have H := Lib.hid (msgNum_any b 2 (by simp only [maxLen]; omega) (by omega) w)
  obtain ⟨n, hn⟩ : ∃ n : Nat, num b 2 2 = n := Int.eq_ofNat_of_zero_le (by omega)
  rw [hn] at H h12 hb ⊢
  rw [Int.toNat_natCast]
  clear hn
  have h1 : 12 ≤ n := by omega
  have h2 : n ≤ b.size := by omega
  go_enter Tryz.func49, Tryz.ntmps49
  go_wp2_with fail
  refine H.out.mono ?_
  rintro e w' ⟨rfl, rfl⟩
  go_wp2_with fail
  go_ret
  exact ⟨rfl, Upd.refl _ _⟩

theorem tanew_at {w : World} {b : Nat} {t : Tn} {own : List Nat} (h : TunAt w b t own) (nw : NewOk t.window t.queue t.retry t.wait 0) :
    Calls Tryz.prog 44 #[.pointer (some ⟨b, 0, none⟩)] w (TunEnd w b own t.anew (.int .i64 0)) := by
  obtain ⟨bd, od, bw, ow, hb, hd, hc, n1, n2, n3, rfl⟩ := h
  refine (tanew_any hb nw).mono ?_
  rintro e w' ⟨rfl, ⟨g, k1, k2, k3⟩, k4⟩
  have hd' := hd.upd k4 (fun k hk => by simp; rintro rfl; exact n1 hk)
  have hbl := hb.lt
  refine ⟨rfl, ⟨b :: (od ++ [g]), ⟨bd, od, g, [g], k1, hd', k2, n1, by simp; omega, fun k hk => by have := hd.lt k hk; simp; omega, rfl⟩, ?_⟩, k4.mono (by simp)⟩
  intro k hk
  simp only [List.mem_cons, List.mem_append, List.not_mem_nil, or_false] at hk ⊢
  rcases hk with rfl | hk | rfl
  · simp
  · simp [hk]
  · exact .inr k3

set_option maxHeartbeats 4000000 in
theorem tyields_any {w : World} {b : Nat} {t : Tn} {own : List Nat} {c : Cm} {v : Value} {ol : List Nat} (h : Msg w b t own v c.l ol) (nw : NewOk t.window t.queue t.retry t.wait 0) :
    Calls Tryz.prog 48 #[.pointer (some ⟨b, 0, none⟩), c.val v] w (TunEnd w b own (t.yields c).1 (.bool (t.yields c).2)) := by
  have HM := Lib.hid h
  have HNW := Lib.hid nw
  obtain ⟨ao, cap, rfl, -, -⟩ := h.o.shape
  obtain ⟨ln, hln⟩ : ∃ ln, c.l.length = ln := ⟨_, rfl⟩
  rw [hln] at HM
  rw [hln]
  clear h hln nw
  simp only [Cm.val]
  obtain ⟨s, hs⟩ : ∃ x, (findAv 5 c.l).1 = x := ⟨_, rfl⟩
  obtain ⟨is_, his⟩ : ∃ x, (findAv 5 c.l).2 = x := ⟨_, rfl⟩
  have HF : Hid (∀ W (V : Value), AvsAt W V c.l → Calls Tryz.prog 74 #[V, .int .i64 5] W fun e w' => e = .returned (.tuple #[.string s, .bool is_]) ∧ Upd [] W w') := by
    intro W V hV
    have h := avFind_any c.l V 5 W hV
    rw [hs, his] at h
    exact h
  have HSZ : Hid (s.size ≤ maxLen) := by show _ ≤ _; rw [← hs]; exact findAv_size 5 c.l _ (fun a ha => Nat.le_trans (HM.out.hs a ha) (by simp [maxLen]))
  obtain ⟨R, hR⟩ : ∃ R, t.yields c = R := ⟨_, rfl⟩
  have HR : Hid (R = if c.ns ≠ 0 ∨ s.size ≠ 8 ∨ t.tie < tieOf s then (t, false) else if tieOf s = t.tie then ({ t with state := 4, told := true }, false) else ({ t.anew with state := 0 }, true)) := by
    show _ = _
    rw [← hR, Tn.yields, hs]
  rw [hR]
  have HNU := Lib.hid (fun W => tnumber_any s HSZ.out W)
  obtain ⟨ti, hti⟩ : ∃ x, tieOf s = x := ⟨_, rfl⟩
  rw [hti] at HR HNU
  clear hs his hR hti
  obtain ⟨ssz, hssz⟩ : ∃ x, s.size = x := ⟨_, rfl⟩
  rw [hssz] at HR

  go_enter Tryz.func48, Tryz.ntmps48
  go_wp2_with fail
  obtain ⟨w0, hw0⟩ : ∃ w0, w.alloc (Obj.cells #[.int .i64 c.t, .int .i64 c.s, .int .i64 c.ns, .int .i64 c.nr, .slice ao ln cap] 55) = w0 := ⟨_, rfl⟩
  have S0 := Lib.hid (Whs.begin HM.out hw0)
  obtain ⟨g, hg⟩ : ∃ g, w.heap.size = g := ⟨_, rfl⟩
  rw [hg] at S0
  rw [hw0, hg]
  have c4 := S0.out.x.c4
  clear hw0 hg
  refine (HF.out _ _ S0.out.m.avs).mono ?_
  rintro e w1 ⟨rfl, u1⟩
  have S1 := Lib.hid (S0.out.keep u1)
  clear u1 c4
  go_wp2_with fail
  refine (HNU.out _).mono ?_
  rintro e w2 ⟨rfl, u2⟩
  have S2 := Lib.hid (S1.out.keep u2)
  have x2 := S2.out.x.cell 2
  simp only [List.size_toArray, List.length_cons, List.length_nil, List.getElem?_toArray, List.getElem?_cons_zero, List.getElem?_cons_succ] at x2
  have c13 := S2.out.m.at_.cellAt 13 (.int .u64 t.tie) (fun _ _ => rfl)
  have c10 := S2.out.m.at_.state
  have f10 := S2.out.m.at_.frozen 10
  have c19 := S2.out.m.at_.cellAt 19 (.bool t.told) (fun _ _ => rfl)
  have f19 := S2.out.m.at_.frozen 19
  clear u2
  by_cases q0 : c.ns = 0
  case neg =>
    go_wp2_with fail
    go_ret
    rw [HR.out, if_pos (.inl q0)]
    exact S2.out.ret _
  by_cases q1 : ssz = 8
  case neg =>
    go_wp2_with fail
    go_ret
    rw [HR.out, if_pos (.inr (.inl q1))]
    exact S2.out.ret _
  by_cases q2 : t.tie < ti
  case pos =>
    go_wp2_with fail
    go_ret
    rw [HR.out, if_pos (.inr (.inr q2))]
    exact S2.out.ret _
  have HN : Hid (¬ (c.ns ≠ 0 ∨ ssz ≠ 8 ∨ t.tie < ti)) := fun h => by rcases h with h | h | h; exact h q0; exact h q1; exact q2 h
  by_cases q3 : ti = t.tie
  case pos =>
    have Q3 := Lib.hid q3
    have K := Lib.hid (((S2.out.sets 10 (.int .i64 4) { t with state := 4 } (fun _ _ => rfl) rfl rfl).sets 19 (.bool true) { t with state := 4, told := true } (fun _ _ => rfl) rfl rfl).ret (.bool false))
    go_wp2_with fail
    go_ret
    rw [HR.out, if_neg HN.out, if_pos Q3.out]
    exact K.out
  have Q3 := Lib.hid q3
  go_wp2_with fail
  refine (tanew_at S2.out.m.at_ HNW.out).mono ?_
  rintro e w3 ⟨rfl, ⟨own3, k1, k2⟩, k3⟩
  have S3 := Lib.hid (S2.out.next k1 k2 k3)
  clear k1 k2 k3 c10 f10 c13 c19 f19 x2
  have c10 := S3.out.m.at_.state
  have f10 := S3.out.m.at_.frozen 10
  go_wp2_with fail
  go_ret
  rw [HR.out, if_neg HN.out, if_neg Q3.out]
  exact (S3.out.sets 10 (.int .i64 0) { t.anew with state := 0 } (fun _ _ => rfl) rfl rfl).ret _

end Go.Proofs.YtolfjfkkbhbbbaaGreat
namespace Go.Proofs.YtolfjfkkbhbbbaaGreat
open Go.RowKit
set_option linter.unusedSimpArgs false
set_option linter.unusedVariables false
set_option maxRecDepth 100000

/-- What is told of a message: nothing, or one message in a block of its own. -/
def Told (w0 w' : World) (own' : List Nat) (r : List Cm) (v u : Value) : Prop :=
  (r = [] ∧ u = .slice none 0 0) ∨ (∃ g m, r = [m] ∧ u = .slice (some ⟨g, 0, none⟩) 1 1 ∧ Bx w' g m v ∧ w0.heap.size ≤ g ∧ g ∉ own')
structure HandleEnd (w : World) (b : Nat) (own : List Nat) (v : Value) (r : Tn × List Cm) (e : Ending) (w' : World) : Prop where
  ex : ∃ u own', e = .returned u ∧ TunAt w' b r.1 own' ∧ Grew w own own' ∧ Told w w' own' r.2 v u
  upd : Upd own w w'
theorem HandleEnd.of {w w' : World} {b : Nat} {own : List Nat} {v : Value} {t : Tn} {u : Value} {e : Ending} (h : TunEnd w b own t u e w') : HandleEnd w b own v (t, []) (.returned (.slice none 0 0)) w' := by
  obtain ⟨-, ⟨own', h1, h2⟩, h3⟩ := h
  exact ⟨⟨_, own', rfl, h1, h2, .inl ⟨rfl, rfl⟩⟩, h3⟩

set_option maxHeartbeats 4000000 in
theorem thandle_any {w : World} {b : Nat} {t : Tn} {own : List Nat} {c : Cm} {v : Value} {ol : List Nat} (h : Msg w b t own v c.l ol) (hz : t.secret.size ≤ 60) (ha : t.asked.size ≤ 400000) (hk : t.tape.asks ≤ 800000) :
    Calls Tryz.prog 52 #[.pointer (some ⟨b, 0, none⟩), c.val v] w (HandleEnd w b own v (t.handle c)) := by
  have HM := Lib.hid h
  have HOP : Hid (∀ W own v, Msg W b t own v c.l ol → Calls Tryz.prog 79 #[.pointer (some ⟨b, 0, none⟩), c.val v] W (TunEnd W b own (t.opened c.l) (.tuple #[]))) := fun W own v h => topened_any h hz hk
  have HRE : Hid (∀ W own v, Msg W b t own v c.l ol → Calls Tryz.prog 80 #[.pointer (some ⟨b, 0, none⟩), c.val v] W (TunEnd W b own (t.replied c.l) (.tuple #[]))) := fun W own v h => treplied_any h hz ha
  have HCO : Hid (∀ W own v, Msg W b t own v c.l ol → Calls Tryz.prog 81 #[.pointer (some ⟨b, 0, none⟩), c.val v] W (TunEnd W b own (t.connected c.l) (.tuple #[]))) := fun W own v h => tconnected_any h hz ha
  have HEN : Hid (∀ W own, TunAt W b t own → Calls Tryz.prog 61 #[.pointer (some ⟨b, 0, none⟩), .int .i64 2] W (TunEnd W b own (t.end_ 2) (.tuple #[]))) := fun W own h => tend_any h 2 (by omega)
  have HKI : Hid (∀ W v, AvsAt W v c.l → Calls Tryz.prog 29 #[c.val v] W fun e w' => e = .returned (.int .i64 (kindOf c.l)) ∧ Upd [] W w') := fun W v h => kind_any _ _ _ _ _ _ _ h (fun a ha => Nat.le_trans (HM.out.hs a ha) (by simp [maxLen]))
  have HCH : Hid (∀ W v, AvsAt W v c.l → Calls Tryz.prog 78 #[c.val v] W fun e w' => e = .returned (.int .i64 (checkOf c.l)) ∧ Upd [] W w') := fun W v h => check_any _ _ _ _ _ _ _ h (fun a ha => Nat.le_trans (HM.out.hs a ha) (by simp [maxLen]))
  obtain ⟨ao, cap, rfl, -, -⟩ := h.o.shape
  obtain ⟨ln, hln⟩ : ∃ ln, c.l.length = ln := ⟨_, rfl⟩
  rw [hln] at HM
  rw [hln]
  clear h hln hz ha hk
  simp only [Cm.val] at HOP HRE HCO HKI HCH ⊢
  obtain ⟨R, hR⟩ : ∃ R, t.handle c = R := ⟨_, rfl⟩
  have HR : Hid (R = if isCallK (kindOf c.l) = true then (if t.state ≠ 3 then (t, []) else (t, [⟨c.t, c.s, 0, 0, c.l⟩]))
    else if checkOf c.l ≠ 0 then (t.end_ 2, []) else if kindOf c.l = 1 ∧ t.state = 0 then (t.opened c.l, []) else if kindOf c.l = 2 ∧ t.state = 1 then (t.replied c.l, [])
    else if kindOf c.l = 3 ∧ t.state = 2 then (t.connected c.l, []) else if kindOf c.l = 4 then ({ t with state := 4 }, []) else (t, [])) := by
    show _ = _
    rw [← hR, Tn.handle]
  rw [hR]
  clear hR
  generalize t.opened c.l = TO at *
  generalize t.replied c.l = TR at *
  generalize t.connected c.l = TC at *
  generalize t.end_ 2 = TE at *
  generalize checkOf c.l = ck at *
  generalize kindOf c.l = kd at *
  have HIC := Lib.hid (fun W => isCall_any kd W)
  generalize isCallK kd = ic at *
  go_enter Tryz.func52, Tryz.ntmps52
  go_wp2_with fail
  obtain ⟨w0, hw0⟩ : ∃ w0, w.alloc (Obj.cells #[.int .i64 c.t, .int .i64 c.s, .int .i64 c.ns, .int .i64 c.nr, .slice ao ln cap] 55) = w0 := ⟨_, rfl⟩
  have S0 := Lib.hid (Whs.begin HM.out hw0)
  obtain ⟨g, hg⟩ : ∃ g, w.heap.size = g := ⟨_, rfl⟩
  rw [hg] at S0
  have HG : Hid (w.heap.size = g) := hg
  rw [hw0, hg]
  clear hw0 hg
  refine (HKI.out _ _ S0.out.m.avs).mono ?_
  rintro e w1 ⟨rfl, u1⟩
  have S1 := Lib.hid (S0.out.keep u1)
  clear u1
  go_wp2_with fail
  refine (HIC.out _).mono ?_
  rintro e w2 ⟨rfl, u2⟩
  have S2 := Lib.hid (S1.out.keep u2)
  clear u2
  have c10 := S2.out.m.at_.state

  have b0 := S2.out.x.cell 0
  have b1 := S2.out.x.cell 1
  have b2 := S2.out.x.cell 2
  have b3 := S2.out.x.cell 3
  have b4 := S2.out.x.cell 4
  simp only [List.size_toArray, List.length_cons, List.length_nil, List.getElem?_toArray, List.getElem?_cons_zero, List.getElem?_cons_succ] at b0 b1 b2 b3 b4
  cases ic
  case true =>
    by_cases t0 : t.state = 3
    · have T0 := Lib.hid t0
      rw [t0] at c10
      clear t0
      go_wp2_with fail
      go_ret
      rw [show R = (t, [⟨c.t, c.s, 0, 0, c.l⟩]) by rw [HR.out]; simp [T0.out]]
      have hal := (Upd.refl [] w2).alloc (.cells #[.int .i64 c.t, .int .i64 c.s, .int .i64 0, .int .i64 0, .slice ao ln cap] 55)
      have S3 := S2.out.keep hal
      refine ⟨⟨_, own, rfl, S3.m.at_, S3.gr, .inr ⟨w2.heap.size, ⟨c.t, c.s, 0, 0, c.l⟩, rfl, rfl, Blk.new _ _ _, S2.out.u.size, fun hk => Nat.lt_irrefl _ (S2.out.m.at_.lt _ hk)⟩⟩, S3.u⟩
    · have T0 := Lib.hid t0
      go_wp2_with fail
      go_ret
      rw [show R = (t, []) by rw [HR.out]; simp [T0.out]]
      exact HandleEnd.of (S2.out.ret (.slice none 0 0))
  have HR1 := Lib.hid (HR.out.trans (if_neg (by simp)))
  clear HR
  go_wp2_with fail
  refine (HCH.out _ _ S2.out.m.avs).mono ?_
  rintro e w3 ⟨rfl, u3⟩
  have S3 := Lib.hid (S2.out.keep u3)
  clear u3 c10 b0 b1 b2 b3 b4
  by_cases t1 : ck = 0
  case neg =>
    have T1 := Lib.hid t1
    go_wp2_with fail
    refine (HEN.out _ _ S3.out.m.at_).mono ?_
    rintro e w4 k6
    obtain ⟨rfl, k6⟩ : e = _ ∧ _ := ⟨k6.e, k6⟩
    go_wp2_with fail
    go_ret
    rw [HR1.out, if_pos T1.out]
    exact HandleEnd.of (S3.out.done k6)
  have HR2 := Lib.hid (HR1.out.trans (if_neg (fun h => h t1)))
  subst t1
  clear HR1
  have c10 := S3.out.m.at_.state
  have f10 := S3.out.m.at_.frozen 10
  have b0 := S3.out.x.cell 0
  have b1 := S3.out.x.cell 1
  have b2 := S3.out.x.cell 2
  have b3 := S3.out.x.cell 3
  have b4 := S3.out.x.cell 4
  simp only [List.size_toArray, List.length_cons, List.length_nil, List.getElem?_toArray, List.getElem?_cons_zero, List.getElem?_cons_succ] at b0 b1 b2 b3 b4
  by_cases k1 : kd = 1
  case pos =>
    subst k1
    by_cases s0 : t.state = 0
    · have SS := Lib.hid s0
      rw [s0] at c10
      clear s0
      go_wp2_with fail
      refine (HOP.out _ _ _ S3.out.m).mono ?_
      rintro e w4 k6
      obtain ⟨rfl, k6⟩ : e = _ ∧ _ := ⟨k6.e, k6⟩
      go_wp2_with fail
      go_ret
      rw [show R = (TO, []) by rw [HR2.out]; simp [SS.out]]
      exact HandleEnd.of (S3.out.done k6)
    · have SS := Lib.hid s0
      go_wp2_with fail
      go_ret
      rw [show R = (t, []) by rw [HR2.out]; simp [SS.out]]
      exact HandleEnd.of (S3.out.ret (.slice none 0 0))
  by_cases k2 : kd = 2
  case pos =>
    subst k2
    by_cases s0 : t.state = 1
    · have SS := Lib.hid s0
      rw [s0] at c10
      clear s0
      go_wp2_with fail
      refine (HRE.out _ _ _ S3.out.m).mono ?_
      rintro e w4 k6
      obtain ⟨rfl, k6⟩ : e = _ ∧ _ := ⟨k6.e, k6⟩
      go_wp2_with fail
      go_ret
      rw [show R = (TR, []) by rw [HR2.out]; simp [SS.out]]
      exact HandleEnd.of (S3.out.done k6)
    · have SS := Lib.hid s0
      go_wp2_with fail
      go_ret
      rw [show R = (t, []) by rw [HR2.out]; simp [SS.out]]
      exact HandleEnd.of (S3.out.ret (.slice none 0 0))
  by_cases k3 : kd = 3
  case pos =>
    subst k3
    by_cases s0 : t.state = 2
    · have SS := Lib.hid s0
      rw [s0] at c10
      clear s0
      go_wp2_with fail
      refine (HCO.out _ _ _ S3.out.m).mono ?_
      rintro e w4 k6
      obtain ⟨rfl, k6⟩ : e = _ ∧ _ := ⟨k6.e, k6⟩
      go_wp2_with fail
      go_ret
      rw [show R = (TC, []) by rw [HR2.out]; simp [SS.out]]
      exact HandleEnd.of (S3.out.done k6)
    · have SS := Lib.hid s0
      go_wp2_with fail
      go_ret
      rw [show R = (t, []) by rw [HR2.out]; simp [SS.out]]
      exact HandleEnd.of (S3.out.ret (.slice none 0 0))
  by_cases k4 : kd = 4
  case pos =>
    subst k4
    go_wp2_with fail
    go_ret
    rw [show R = ({ t with state := 4 }, []) by rw [HR2.out]; simp]
    exact HandleEnd.of ((S3.out.sets 10 (.int .i64 4) { t with state := 4 } (fun _ _ => rfl) rfl rfl).ret (.slice none 0 0))
  have HRZ : Hid (R = (t, [])) := by show _ = _; rw [HR2.out]; simp [k1, k2, k3, k4]
  clear HR2
  go_wp2_with fail
  go_ret
  rw [HRZ.out]
  exact HandleEnd.of (S3.out.ret (.slice none 0 0))
end Go.Proofs.YtolfjfkkbhbbbaaGreat
