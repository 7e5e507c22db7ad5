/- WRITTEN by wip/gen/rdatk.py. The walk of the document's own Build (chapter 23). -/
import Derived.Test.YtljiichcmljbgaaGreatQRDatS
import Derived.Test.YtljiichcmljbgaaGreatQDataV
import Derived.Test.YtljiichcmljbgaaGreatQLib
namespace Go.Proofs.YtljiichcmljbgaaGreat
open Go.RowKit
set_option linter.unusedSimpArgs false
set_option linter.unusedVariables false
set_option maxRecDepth 100000

theorem build_bad {p : Px} {x : Av} (hx : x ∈ p.all) (hs : 1000 < x.val.size) : p.build = [] := by
  unfold Px.build
  split
  · rfl
  · rw [if_pos (List.any_eq_true.2 ⟨x, hx, decide_eq_true hs⟩)]
theorem build_badl {p : Px} (h : p.linkBad = true) : p.build = [] := by unfold Px.build; rw [if_pos h]
theorem low8_mod (n : Int) : low8 n = n % 256 := i64_mask n 8 (by omega)
/-- The call gives these values. -/
def GivesAvs (l : List Av) (w : World) (e : Ending) (w' : World) : Prop := ∃ v, e = .returned v ∧ AvsAt w' v l ∧ Upd [] w w'
theorem avs_own {w : World} {v : Value} {l : List Av} {n : Nat} {own : List Nat} (h : Own w 67 5 v n (avCells l) own) : AvsAt w v l := by
  have hn : n = l.length := by have := h.1; simp at this; omega
  subst hn
  exact AvsAt.of_own h
/-- What stands behind the loop. -/
structure rbSt (w : World) (p : Px) (V : World) (s3 : Value) (own : List Nat) : Prop where
  o : Own V 67 5 s3 3 (avCells p.link) own
  f : ∀ k, k ∈ own → w.heap.size ≤ k
  u : Upd [] w V
set_option maxHeartbeats 8000000 in
theorem rbuild_any (p : Px) (f t r : Value) (w : World) (hf : TgsAt w f p.first) (ht : TgsAt w t p.tx) (hr : TgsAt w r p.rx) (hs : ∀ l ∈ p.ls, ∀ t ∈ l, t.s.size ≤ 140737488355328)
    (hz : p.name.size ≤ 140737488355328 ∧ p.value.size ≤ 140737488355328 ∧ p.reply.size ≤ 140737488355328) (hpk : -9223372036854775808 ≤ p.kind ∧ p.kind ≤ 9223372036854775807) :
    Calls Tryz.prog 12 #[p.val f t r] w (GivesAvs p.build w) := by
  obtain ⟨i0, hi0, hz0, hz1, hz2⟩ := info_parts info_avp
  obtain ⟨R, hR⟩ : ∃ R, R = p.build := ⟨_, rfl⟩
  have HR := Lib.hid hR
  rw [← hR]
  obtain ⟨P, hP⟩ : ∃ P, P = p := ⟨_, rfl⟩
  rw [← hP] at hs HR hf ht hr
  have HS := Lib.hid hs
  obtain ⟨a1, c1, rfl⟩ := hf.slice
  obtain ⟨a2, c2, rfl⟩ := ht.slice
  obtain ⟨a3, c3, rfl⟩ := hr.slice
  have HLS : Hid (∀ (k : Nat) (x : List Tg), P.ls[k]? = some x → ∃ u, (#[Value.slice a1 P.first.length c1, Value.slice a2 P.tx.length c2, Value.slice a3 P.rx.length c3] : Array Value)[k]? = some u ∧ TgsAt w u x) := by
    intro k x hx
    match k, hx with
    | 0, hx => simp [Px.ls] at hx; subst hx; exact ⟨_, rfl, hf⟩
    | 1, hx => simp [Px.ls] at hx; subst hx; exact ⟨_, rfl, ht⟩
    | 2, hx => simp [Px.ls] at hx; subst hx; exact ⟨_, rfl, hr⟩
    | k + 3, hx => simp [Px.ls] at hx
  generalize P.first.length = n1 at *
  generalize P.tx.length = n2 at *
  generalize P.rx.length = n3 at *
  obtain ⟨pf, pt, pr, pk, pi, pn, pv, py⟩ := p
  have HP : Hid (P = ⟨pf, pt, pr, pk, pi, pn, pv, py⟩) := hP
  obtain ⟨z1, z2, z3⟩ := hz
  simp only at z1 z2 z3 hpk
  have HPK := Lib.hid hpk
  clear hf ht hr hs hP hR hpk
  obtain ⟨wz, hwz⟩ : ∃ wz, wz = (w.alloc (.cells #[.slice a1 n1 c1, .slice a2 n2 c2, .slice a3 n3 c3, .int .i64 pk, .int .i64 pi, .string pn, .string pv, .string py] 50)).alloc (.cells #[.slice a1 n1 c1, .slice a2 n2 c2, .slice a3 n3 c3] 22) := ⟨_, rfl⟩
  have HB0 : Hid (Blk wz w.heap.size 50 #[.slice a1 n1 c1, .slice a2 n2 c2, .slice a3 n3 c3, .int .i64 pk, .int .i64 pi, .string pn, .string pv, .string py]) := by show Blk _ _ _ _; rw [hwz]; exact (Blk.new _ _ _).alloc _
  have HS0 : Hid (Blk wz (w.heap.size + 1) 22 #[.slice a1 n1 c1, .slice a2 n2 c2, .slice a3 n3 c3]) := by
    show Blk _ _ _ _
    have h := Blk.new (w.alloc (.cells #[.slice a1 n1 c1, .slice a2 n2 c2, .slice a3 n3 c3, .int .i64 pk, .int .i64 pi, .string pn, .string pv, .string py] 50)) 22 #[.slice a1 n1 c1, .slice a2 n2 c2, .slice a3 n3 c3]
    rw [show (w.alloc (.cells #[.slice a1 n1 c1, .slice a2 n2 c2, .slice a3 n3 c3, .int .i64 pk, .int .i64 pi, .string pn, .string pv, .string py] 50)).heap.size = w.heap.size + 1 by simp] at h
    rw [hwz]
    exact h
  have HUz : Hid (Upd [] w wz) := by show Upd _ _ _; rw [hwz]; exact ((Upd.refl _ _).alloc _).alloc _
  have HWZ := Lib.hid hwz
  clear hwz
  go_enter Tryz.func12, Tryz.ntmps12
  simp only [Px.val]
  go_wp2_with fail
  rw [← HWZ.out]
  go_loopg [3, 5] 3 (fun m s3 s5 wr => ∃ (k : Nat) (ao : Option Addr) (cap : Nat) (own : List Nat) (L : List Av), k + m = 3 ∧ s5 = .int .i64 k ∧ s3 = .slice ao k cap ∧ L = P.link.take k ∧ Own wr 67 5 (.slice ao k cap) k (avCells L) own ∧ (∀ y, y ∈ own → w.heap.size ≤ y) ∧ (∀ (j : Nat) x, j < k → P.ls[j]? = some x → (putOpts x).2 = 0 ∧ (encOpts x).size ≤ 1000) ∧ Blk wr w.heap.size 50 #[.slice a1 n1 c1, .slice a2 n2 c2, .slice a3 n3 c3, .int .i64 pk, .int .i64 pi, .string pn, .string pv, .string py] ∧ Blk wr (w.heap.size + 1) 22 #[.slice a1 n1 c1, .slice a2 n2 c2, .slice a3 n3 c3] ∧ Upd [] w wr)
  case atStart => exact ⟨0, none, 0, [], [], by omega, rfl, rfl, rfl, Own.nil _ _ _, by simp, by intro j x hj; omega, HB0.out, HS0.out, HUz.out⟩
  case round =>
    obtain ⟨k, ao, cap, own, L, hk, rfl, rfl, hL, ho, hfr, hgd, hb, hsl, hu⟩ := hrel
    have HL := Lib.hid hL
    have HO := Lib.hid ho
    have HF := Lib.hid hfr
    have HG := Lib.hid hgd
    have HB := Lib.hid hb
    have HSL := Lib.hid hsl
    have HU := Lib.hid hu
    clear hL ho hfr hgd hb hu HWZ HB0 HS0 HUz
    by_cases t3 : k < 3
    · have ti : (k : Int) < 3 := by omega
      obtain ⟨x, hx⟩ : ∃ x, P.ls[k]? = some x := ⟨_, List.getElem?_eq_getElem (by show k < 3; omega)⟩
      obtain ⟨u, hu1, hu2⟩ := HLS.out k x hx
      have hc := (hsl.cell k).trans hu1
      have HPO : Hid (∀ W, Upd [] w W → Calls Tryz.prog 33 #[u] W fun e w' => e = .returned (.tuple #[.string (putOpts x).1, .int .i64 (putOpts x).2]) ∧ Upd [] W w') := fun W hW => rputOptions_any x u W (hu2.upd hW) (HS.out x (px_ls hx t3).2)
      obtain ⟨au, cu, rfl⟩ := hu2.slice
      generalize x.length = nx at *
      obtain ⟨⟨s, e0⟩, hpo⟩ : ∃ q, putOpts x = q := ⟨_, rfl⟩
      rw [hpo] at HPO
      have HX := Lib.hid hx
      have HPP := Lib.hid hpo
      clear hu1 hu2 hsl hx hpo
      simp only at HPO
      go_wp2_with fail
      refine (HPO.out _ HU.out).mono ?_
      rintro e w1 ⟨rfl, hu1⟩
      have HU1 := Lib.hid (HU.out.trans hu1)
      have HO1 := Lib.hid (HO.out.upd hu1 (by simp))
      have HB1 := Lib.hid (HB.out.upd hu1 (by simp))
      have HSL1 := Lib.hid (HSL.out.upd hu1 (by simp))
      clear hu1 HU HO HB HSL hc HPO
      by_cases te : e0 = 0
      rotate_left
      · have te' : (e0 != 0) = true := by simpa using te
        have HRR : Hid (R = []) := by
          show _ = _
          rw [HR.out]
          exact build_badl (linkBad_of (px_ls HX.out t3).2 (by rw [HPP.out]; exact te))
        clear te
        go_wp2_with fail
        go_ret
        rw [HRR.out]
        exact ⟨_, rfl, AvsAt.nil _, HU1.out⟩
      subst te
      have hse := (putOpts_ok HPP.out).1
      by_cases tz : 1000 < s.size
      · have tz' : (1000 : Int) < s.size := by omega
        have HRR : Hid (R = []) := by
          show _ = _
          rw [HR.out]
          refine build_bad (x := textAv (26 + k) (encOpts x)) ?_ ?_
          · have h1 := List.mem_of_getElem? (px_ls HX.out t3).1
            unfold Px.all
            exact List.mem_append_left _ h1
          · rw [← hse]; exact tz
        clear tz hse
        go_wp2_with fail
        go_ret
        rw [HRR.out]
        exact ⟨_, rfl, AvsAt.nil _, HU1.out⟩
      have tz' : ¬ (1000 : Int) < s.size := by omega
      have HSE := Lib.hid hse
      have HTZ := Lib.hid tz
      clear hse tz
      obtain ⟨nl, hnl⟩ : ∃ n, n = k := ⟨_, rfl⟩
      go_wp2_with fail
      refine (rtext_any (26 + (k : Int)) s _).mono ?_
      rintro e wt ⟨rfl, hut⟩
      have HUT := Lib.hid (HU1.out.trans hut)
      have HOT := Lib.hid (HO1.out.upd hut (by simp))
      have HBT := Lib.hid (HB1.out.upd hut (by simp))
      have HSLT := Lib.hid (HSL1.out.upd hut (by simp))
      clear hut HU1 HO1 HB1 HSL1 hnl
      go_wp2_with (at_builtin; refine wpList_append_Own _ rfl (.tmp 35) (.tmp 40) 25 rfl 67 i0 _ 5 40 Tryz.underlying25 hi0 hz0 hz1 hz2 rfl (by decide) (.slice ao k cap) k (avCells L) own (by simp [Act.eval]) (Own.alloc _ HOT.out) ⟨wt.heap.size, 0, none⟩ 1 1 [.bool true, .bool false, .int .i64 0, .int .i64 (26 + (k : Int)), .string s] (by simp [Act.eval]) rfl (World.news_of_block (Blk.new _ _ _)) (by simp [Value.oneCell']) (by decide) (by simp only [maxLen]; omega) (by omega) ?_; intro ga offa capa wa owna hoa hina hua; have HOA := Lib.hid hoa; have HINA := Lib.hid hina; have HUA := Lib.hid hua; clear hoa hina hua)
      go_roundg (3 - (k + 1))
      case rel =>
        have hlk := (px_ls HX.out t3).1
        refine ⟨k + 1, some ⟨ga, offa, none⟩, capa, owna, P.link.take (k + 1), by omega, by go_num, rfl, rfl, ?_, fun y hy => ?_, fun j y hj hy => ?_, ?_, ?_, ?_⟩
        · rw [List.take_add_one, hlk, avCells_append, ← HL.out]
          show Own _ _ _ _ _ (avCells L ++ avCells [textAv (26 + k) (encOpts x)]) _
          rw [← HSE.out]
          exact HOA.out
        · rcases HINA.out y hy with h | h
          · exact HF.out y h
          · have h1 := HUT.out.size; simp at h; omega
        · by_cases hjk : j = k
          · subst hjk
            have e2 := HX.out.symm.trans hy
            injection e2 with e2
            subst e2
            rw [HPP.out, ← HSE.out]
            exact ⟨rfl, by have := HTZ.out; omega⟩
          · exact HG.out j y (by omega) hy
        · exact (HBT.out.alloc _).upd HUA.out (fun hk => HOT.out.ne_blk HBT.out (by decide) hk)
        · exact (HSLT.out.alloc _).upd HUA.out (fun hk => HOT.out.ne_blk HSLT.out (by decide) hk)
        · exact (HUT.out.alloc _).trans' HUA.out (fun y hy => .inr (HF.out y hy))
      case measure => omega
    · have hk3 : k = 3 := by omega
      have t3' : ¬ (k : Int) < 3 := by omega
      have hgood : P.linkBad = false := linkGood_of (fun x hx => by
        obtain ⟨j, hj⟩ := List.mem_iff_getElem?.1 hx
        have h3 : j < 3 := (List.getElem?_eq_some_iff.1 hj).1
        exact (HG.out j x (by omega) hj).1)
      have hsmall : ∀ x ∈ P.link, x.val.size ≤ 1000 := by
        intro x hx
        have h1 := fun j y hj h => (HG.out j y hj h).2
        have g1 := h1 0 _ (by omega) rfl
        have g2 := h1 1 _ (by omega) rfl
        have g3 := h1 2 _ (by omega) rfl
        simp only [Px.link, List.mem_cons, List.not_mem_nil, or_false] at hx
        rcases hx with rfl | rfl | rfl
        · exact g1
        · exact g2
        · exact g3
      have HBU : Hid (∀ M, P.all = P.link ++ M → (∀ x ∈ M, x.val.size ≤ 1000) → R = P.link ++ M) := by
        intro M hM hMs
        rw [HR.out]
        unfold Px.build
        rw [if_neg (by rw [hgood]; simp), if_neg ?_, hM]
        intro h
        obtain ⟨x, h1, h2⟩ := List.any_eq_true.1 h
        have h3 : 1000 < x.val.size := of_decide_eq_true h2
        rw [hM] at h1
        rcases List.mem_append.1 h1 with h4 | h4
        · have := hsmall x h4; omega
        · have := hMs x h4; omega
      have HBAD : Hid (∀ x, x ∈ P.all → 1000 < x.val.size → R = []) := fun x h1 h2 => by rw [HR.out]; exact build_bad h1 h2
      have HL3 : Hid (L = P.link) := by show _ = _; rw [HL.out, hk3]; exact List.take_of_length_le (by show 3 ≤ 3; omega)
      clear hgood hsmall HG HLS HSL HL HS hk hsl t3
      have hkle : k ≤ 3 := by omega
      clear hk3
      have HALL : Hid (P.all = P.link ++ ((if pk = 0 then [] else [numAv 29 pk 2]) ++ (if pk = 2 then [textAv 30 pn, numAv 32 (low8 pi) 2, textAv 31 pv, textAv 33 py] else if pk = 3 then [textAv 30 pn, numAv 32 (low8 pi) 2, textAv 33 py] else []))) := by show _ = _; rw [HP.out]; rfl
      clear HR
      obtain ⟨s29, hs29⟩ : ∃ x, x = be 2 pk := ⟨_, rfl⟩
      have HS29 := Lib.hid hs29
      have H29 : Hid (∀ W, Upd [] w W → Calls Tryz.prog 35 #[.int .i64 29, .int .i64 pk, .int .i64 2] W fun e w' => e = .returned (.agg #[.bool true, .bool false, .int .i64 0, .int .i64 29, .string s29]) ∧ Upd [] W w') := fun W _ => by rw [hs29]; exact rnum18_any 29 pk 2 (by omega) HPK.out W
      obtain ⟨idm, hidm⟩ : ∃ x, x = pi % 256 := ⟨_, rfl⟩
      have hid0 : 0 ≤ idm ∧ idm < 256 := by omega
      obtain ⟨s32, hs32⟩ : ∃ x, x = be 2 idm := ⟨_, rfl⟩
      have HZ32 : Hid (s32.size = 2) := by show _ = _; rw [hs32, be_size]
      have HS32 : Hid (numAv 32 (low8 pi) 2 = ⟨true, false, 0, 32, s32⟩) := by show _ = _; rw [low8_mod, ← hidm, hs32]; rfl
      have H32 : Hid (∀ v W, v = idm → Upd [] w W → Calls Tryz.prog 35 #[.int .i64 32, .int .i64 v, .int .i64 2] W fun e w' => e = .returned (.agg #[.bool true, .bool false, .int .i64 0, .int .i64 32, .string s32]) ∧ Upd [] W w') := fun v W hv _ => by subst hv; rw [hs32]; exact rnum18_any 32 _ 2 (by omega) (by omega) W
      have htm : pi.tmod 256 = idm ∨ pi.tmod 256 = idm - 256 := by
        rw [hidm]
        rcases Int.le_total 0 pi with h | h
        · left; exact Int.tmod_eq_emod_of_nonneg h
        · have := Int.tmod_eq_emod (a := pi) (b := 256)
          rw [this]
          split
          · left; omega
          · right; omega
      obtain ⟨x9, hx9⟩ : ∃ x, pi.tmod 256 = x := ⟨_, rfl⟩
      rw [hx9] at htm
      clear hs29 hidm hs32
      obtain ⟨x0, x1, x2, x3, x4, x5, x6, x7⟩ := px8 HB.out
      by_cases k0 : pk = 0
      · subst k0
        have HRR : Hid (R = P.link ++ []) := HBU.out [] (by rw [HALL.out]; rfl) (by simp)
        clear HBU HBAD HALL
        go_wp2_with fail
        go_ret
        rw [HRR.out]
        exact ⟨_, rfl, by have h := avs_own HO.out; rw [HL3.out] at h; simpa using h, HU.out⟩
      have e0 : (pk == 0) = false := by simpa using k0
      by_cases k2 : pk = 2
      · subst k2
        clear k0
        by_cases tpn : 1000 < pn.size
        · have epn : (1000 : Int) < pn.size := by omega
          have HRR : Hid (R = []) := HBAD.out (textAv 30 pn) (by rw [HALL.out]; simp [textAv]) tpn
          clear tpn
          go_wp2_with fail
          go_ret
          rw [HRR.out]
          exact ⟨_, rfl, AvsAt.nil _, HU.out⟩
        have epn : ¬ (1000 : Int) < pn.size := by omega
        by_cases tpy : 1000 < py.size
        · have epy : (1000 : Int) < py.size := by omega
          have HRR : Hid (R = []) := HBAD.out (textAv 33 py) (by rw [HALL.out]; simp [textAv]) tpy
          clear tpy
          go_wp2_with fail
          go_ret
          rw [HRR.out]
          exact ⟨_, rfl, AvsAt.nil _, HU.out⟩
        have epy : ¬ (1000 : Int) < py.size := by omega
        by_cases tpv : 1000 < pv.size
        · have epv : (1000 : Int) < pv.size := by omega
          have HRR : Hid (R = []) := HBAD.out (textAv 31 pv) (by rw [HALL.out]; simp [textAv]) tpv
          clear tpv
          go_wp2_with fail
          go_ret
          rw [HRR.out]
          exact ⟨_, rfl, AvsAt.nil _, HU.out⟩
        have epv : ¬ (1000 : Int) < pv.size := by omega
        have HRR : Hid (R = P.link ++ [⟨true, false, 0, 29, s29⟩, textAv 30 pn, ⟨true, false, 0, 32, s32⟩, textAv 31 pv, textAv 33 py]) := HBU.out _ (by rw [HALL.out, HS32.out, HS29.out]; rfl) (by intro x hx; simp only [List.mem_cons, List.not_mem_nil, or_false] at hx; rcases hx with rfl | rfl | rfl | rfl | rfl <;> simp only [textAv] <;> first | omega | (rw [HS29.out, be_size]; omega) | (rw [HZ32.out]; omega))
        clear HBU HBAD HALL tpn tpy tpv
        go_wp2_with fail
        refine (H29.out _ HU.out).mono ?_
        rintro e wt1 ⟨rfl, hut⟩
        have HO1 := Lib.hid (HO.out.upd hut (by simp))
        have HB1 := Lib.hid (HB.out.upd hut (by simp))
        have HU1 := Lib.hid (HU.out.trans hut)
        clear hut
        clear x0 x1 x2 x3 x4 x5 x6 x7
        obtain ⟨x0, x1, x2, x3, x4, x5, x6, x7⟩ := px8 HB1.out
        by_cases x90 : x9 < 0
        all_goals
          go_wp2_with (at_builtin; refine wpList_append_Own _ rfl (.tmp 77) (.tmp 81) 25 rfl 67 i0 _ 5 40 Tryz.underlying25 hi0 hz0 hz1 hz2 rfl (by decide) (.slice ao k cap) k (avCells L) own (by simp [Act.eval]) (Own.alloc _ HO1.out) ⟨wt1.heap.size, 0, none⟩ 1 1 [.bool true, .bool false, .int .i64 0, .int .i64 29, .string s29] (by simp [Act.eval]) rfl (World.news_of_block (Blk.new _ _ _)) (by simp [Value.oneCell']) (by decide) (by simp only [maxLen]; omega) (by omega) ?_; intro ga2 offa2 capa2 wa2 owna2 hoa hina hua; have HOA := Lib.hid hoa; have HINA := Lib.hid hina; have HUA := Lib.hid hua; clear hoa hina hua; have hsz2 := HU1.out.size; have HO2 : Hid (Own wa2 67 5 (.slice (some ⟨ga2, offa2, none⟩) (k + 1) capa2) (k + 1) (avCells (L ++ [⟨true, false, 0, 29, s29⟩])) owna2) := (by show Own _ _ _ _ _ _ _; rw [avCells_append]; exact HOA.out); have HF2 : Hid (∀ k, k ∈ owna2 → w.heap.size ≤ k) := fun k hk => (HINA.out k hk).elim (HF.out k) (fun h => by simp at h; omega); have HU2 : Hid (Upd [] w wa2) := (HU1.out.alloc _).trans' HUA.out (fun y hy => .inr (HF.out y hy)); have HB2 : Hid (Blk wa2 w.heap.size 50 #[.slice a1 n1 c1, .slice a2 n2 c2, .slice a3 n3 c3, .int .i64 2, .int .i64 pi, .string pn, .string pv, .string py]) := (HB1.out.alloc _).upd HUA.out (fun hk => HO1.out.ne_blk HB1.out (by decide) hk); clear HOA HINA HUA; clear x0 x1 x2 x3 x4 x5 x6 x7; obtain ⟨x0, x1, x2, x3, x4, x5, x6, x7⟩ := px8 HB2.out)
          refine (rtext_any 30 pn _).mono ?_
          rintro e wt2 ⟨rfl, hut⟩
          have HO3 := Lib.hid (HO2.out.upd hut (by simp))
          have HB3 := Lib.hid (HB2.out.upd hut (by simp))
          have HU3 := Lib.hid (HU2.out.trans hut)
          clear hut
          clear x0 x1 x2 x3 x4 x5 x6 x7
          obtain ⟨x0, x1, x2, x3, x4, x5, x6, x7⟩ := px8 HB3.out
          go_wp2_with fail
          refine (H32.out _ _ (by first | omega | (rw [IntWalk.wrap64_in _ (by omega)]; omega)) HU3.out).mono ?_
          rintro e wt3 ⟨rfl, hut⟩
          have HO4 := Lib.hid (HO3.out.upd hut (by simp))
          have HB4 := Lib.hid (HB3.out.upd hut (by simp))
          have HU4 := Lib.hid (HU3.out.trans hut)
          clear hut
          clear x0 x1 x2 x3 x4 x5 x6 x7
          obtain ⟨x0, x1, x2, x3, x4, x5, x6, x7⟩ := px8 HB4.out
          go_wp2_with (at_builtin; refine wpList_append_Own _ rfl (.tmp 99) (.tmp 105) 25 rfl 67 i0 _ 5 40 Tryz.underlying25 hi0 hz0 hz1 hz2 rfl (by decide) (.slice (some ⟨ga2, offa2, none⟩) (k + 1) capa2) (k + 1) (avCells (L ++ [⟨true, false, 0, 29, s29⟩])) owna2 (by simp [Act.eval]) (Own.alloc _ HO4.out) ⟨wt3.heap.size, 0, none⟩ 2 2 [.bool true, .bool false, .int .i64 0, .int .i64 30, .string pn, .bool true, .bool false, .int .i64 0, .int .i64 32, .string s32] (by simp [Act.eval]) rfl (World.news_of_block (Blk.new _ _ _)) (by simp [Value.oneCell']) (by decide) (by simp only [maxLen]; omega) (by omega) ?_; intro ga5 offa5 capa5 wa5 owna5 hoa hina hua; have HOA := Lib.hid hoa; have HINA := Lib.hid hina; have HUA := Lib.hid hua; clear hoa hina hua; have hsz5 := HU4.out.size; have HO5 : Hid (Own wa5 67 5 (.slice (some ⟨ga5, offa5, none⟩) ((k + 1) + 2) capa5) ((k + 1) + 2) (avCells ((L ++ [⟨true, false, 0, 29, s29⟩]) ++ [textAv 30 pn, ⟨true, false, 0, 32, s32⟩])) owna5) := (by show Own _ _ _ _ _ _ _; rw [avCells_append]; exact HOA.out); have HF5 : Hid (∀ k, k ∈ owna5 → w.heap.size ≤ k) := fun k hk => (HINA.out k hk).elim (HF2.out k) (fun h => by simp at h; omega); have HU5 : Hid (Upd [] w wa5) := (HU4.out.alloc _).trans' HUA.out (fun y hy => .inr (HF2.out y hy)); have HB5 : Hid (Blk wa5 w.heap.size 50 #[.slice a1 n1 c1, .slice a2 n2 c2, .slice a3 n3 c3, .int .i64 2, .int .i64 pi, .string pn, .string pv, .string py]) := (HB4.out.alloc _).upd HUA.out (fun hk => HO4.out.ne_blk HB4.out (by decide) hk); clear HOA HINA HUA; clear x0 x1 x2 x3 x4 x5 x6 x7; obtain ⟨x0, x1, x2, x3, x4, x5, x6, x7⟩ := px8 HB5.out)
          refine (rtext_any 31 pv _).mono ?_
          rintro e wt4 ⟨rfl, hut⟩
          have HO6 := Lib.hid (HO5.out.upd hut (by simp))
          have HB6 := Lib.hid (HB5.out.upd hut (by simp))
          have HU6 := Lib.hid (HU5.out.trans hut)
          clear hut
          clear x0 x1 x2 x3 x4 x5 x6 x7
          obtain ⟨x0, x1, x2, x3, x4, x5, x6, x7⟩ := px8 HB6.out
          go_wp2_with (at_builtin; refine wpList_append_Own _ rfl (.tmp 110) (.tmp 114) 25 rfl 67 i0 _ 5 40 Tryz.underlying25 hi0 hz0 hz1 hz2 rfl (by decide) (.slice (some ⟨ga5, offa5, none⟩) ((k + 1) + 2) capa5) ((k + 1) + 2) (avCells ((L ++ [⟨true, false, 0, 29, s29⟩]) ++ [textAv 30 pn, ⟨true, false, 0, 32, s32⟩])) owna5 (by simp [Act.eval]) (Own.alloc _ HO6.out) ⟨wt4.heap.size, 0, none⟩ 1 1 [.bool true, .bool false, .int .i64 0, .int .i64 31, .string pv] (by simp [Act.eval]) rfl (World.news_of_block (Blk.new _ _ _)) (by simp [Value.oneCell']) (by decide) (by simp only [maxLen]; omega) (by omega) ?_; intro ga7 offa7 capa7 wa7 owna7 hoa hina hua; have HOA := Lib.hid hoa; have HINA := Lib.hid hina; have HUA := Lib.hid hua; clear hoa hina hua; have hsz7 := HU6.out.size; have HO7 : Hid (Own wa7 67 5 (.slice (some ⟨ga7, offa7, none⟩) (((k + 1) + 2) + 1) capa7) (((k + 1) + 2) + 1) (avCells (((L ++ [⟨true, false, 0, 29, s29⟩]) ++ [textAv 30 pn, ⟨true, false, 0, 32, s32⟩]) ++ [textAv 31 pv])) owna7) := (by show Own _ _ _ _ _ _ _; rw [avCells_append]; exact HOA.out); have HF7 : Hid (∀ k, k ∈ owna7 → w.heap.size ≤ k) := fun k hk => (HINA.out k hk).elim (HF5.out k) (fun h => by simp at h; omega); have HU7 : Hid (Upd [] w wa7) := (HU6.out.alloc _).trans' HUA.out (fun y hy => .inr (HF5.out y hy)); have HB7 : Hid (Blk wa7 w.heap.size 50 #[.slice a1 n1 c1, .slice a2 n2 c2, .slice a3 n3 c3, .int .i64 2, .int .i64 pi, .string pn, .string pv, .string py]) := (HB6.out.alloc _).upd HUA.out (fun hk => HO6.out.ne_blk HB6.out (by decide) hk); clear HOA HINA HUA; clear x0 x1 x2 x3 x4 x5 x6 x7; obtain ⟨x0, x1, x2, x3, x4, x5, x6, x7⟩ := px8 HB7.out)
          refine (rtext_any 33 py _).mono ?_
          rintro e wt5 ⟨rfl, hut⟩
          have HO8 := Lib.hid (HO7.out.upd hut (by simp))
          have HB8 := Lib.hid (HB7.out.upd hut (by simp))
          have HU8 := Lib.hid (HU7.out.trans hut)
          clear hut
          clear x0 x1 x2 x3 x4 x5 x6 x7
          obtain ⟨x0, x1, x2, x3, x4, x5, x6, x7⟩ := px8 HB8.out
          go_wp2_with (at_builtin; refine wpList_append_Own _ rfl (.tmp 116) (.tmp 120) 25 rfl 67 i0 _ 5 40 Tryz.underlying25 hi0 hz0 hz1 hz2 rfl (by decide) (.slice (some ⟨ga7, offa7, none⟩) (((k + 1) + 2) + 1) capa7) (((k + 1) + 2) + 1) (avCells (((L ++ [⟨true, false, 0, 29, s29⟩]) ++ [textAv 30 pn, ⟨true, false, 0, 32, s32⟩]) ++ [textAv 31 pv])) owna7 (by simp [Act.eval]) (Own.alloc _ HO8.out) ⟨wt5.heap.size, 0, none⟩ 1 1 [.bool true, .bool false, .int .i64 0, .int .i64 33, .string py] (by simp [Act.eval]) rfl (World.news_of_block (Blk.new _ _ _)) (by simp [Value.oneCell']) (by decide) (by simp only [maxLen]; omega) (by omega) ?_; intro ga9 offa9 capa9 wa9 owna9 hoa hina hua; have HOA := Lib.hid hoa; have HINA := Lib.hid hina; have HUA := Lib.hid hua; clear hoa hina hua; have hsz9 := HU8.out.size; have HO9 : Hid (Own wa9 67 5 (.slice (some ⟨ga9, offa9, none⟩) ((((k + 1) + 2) + 1) + 1) capa9) ((((k + 1) + 2) + 1) + 1) (avCells ((((L ++ [⟨true, false, 0, 29, s29⟩]) ++ [textAv 30 pn, ⟨true, false, 0, 32, s32⟩]) ++ [textAv 31 pv]) ++ [textAv 33 py])) owna9) := (by show Own _ _ _ _ _ _ _; rw [avCells_append]; exact HOA.out); have HF9 : Hid (∀ k, k ∈ owna9 → w.heap.size ≤ k) := fun k hk => (HINA.out k hk).elim (HF7.out k) (fun h => by simp at h; omega); have HU9 : Hid (Upd [] w wa9) := (HU8.out.alloc _).trans' HUA.out (fun y hy => .inr (HF7.out y hy)); have HB9 : Hid (Blk wa9 w.heap.size 50 #[.slice a1 n1 c1, .slice a2 n2 c2, .slice a3 n3 c3, .int .i64 2, .int .i64 pi, .string pn, .string pv, .string py]) := (HB8.out.alloc _).upd HUA.out (fun hk => HO8.out.ne_blk HB8.out (by decide) hk); clear HOA HINA HUA; clear x0 x1 x2 x3 x4 x5 x6 x7; obtain ⟨x0, x1, x2, x3, x4, x5, x6, x7⟩ := px8 HB9.out)
          go_ret
          rw [HRR.out]
          exact ⟨_, rfl, by have h := avs_own HO9.out; rw [HL3.out] at h; simpa using h, HU9.out⟩
      by_cases k3 : pk = 3
      · subst k3
        clear k0 k2
        by_cases tpn : 1000 < pn.size
        · have epn : (1000 : Int) < pn.size := by omega
          have HRR : Hid (R = []) := HBAD.out (textAv 30 pn) (by rw [HALL.out]; simp [textAv]) tpn
          clear tpn
          go_wp2_with fail
          go_ret
          rw [HRR.out]
          exact ⟨_, rfl, AvsAt.nil _, HU.out⟩
        have epn : ¬ (1000 : Int) < pn.size := by omega
        by_cases tpy : 1000 < py.size
        · have epy : (1000 : Int) < py.size := by omega
          have HRR : Hid (R = []) := HBAD.out (textAv 33 py) (by rw [HALL.out]; simp [textAv]) tpy
          clear tpy
          go_wp2_with fail
          go_ret
          rw [HRR.out]
          exact ⟨_, rfl, AvsAt.nil _, HU.out⟩
        have epy : ¬ (1000 : Int) < py.size := by omega
        have HRR : Hid (R = P.link ++ [⟨true, false, 0, 29, s29⟩, textAv 30 pn, ⟨true, false, 0, 32, s32⟩, textAv 33 py]) := HBU.out _ (by rw [HALL.out, HS32.out, HS29.out]; rfl) (by intro x hx; simp only [List.mem_cons, List.not_mem_nil, or_false] at hx; rcases hx with rfl | rfl | rfl | rfl <;> simp only [textAv] <;> first | omega | (rw [HS29.out, be_size]; omega) | (rw [HZ32.out]; omega))
        clear HBU HBAD HALL tpn tpy
        go_wp2_with fail
        refine (H29.out _ HU.out).mono ?_
        rintro e wt1 ⟨rfl, hut⟩
        have HO1 := Lib.hid (HO.out.upd hut (by simp))
        have HB1 := Lib.hid (HB.out.upd hut (by simp))
        have HU1 := Lib.hid (HU.out.trans hut)
        clear hut
        clear x0 x1 x2 x3 x4 x5 x6 x7
        obtain ⟨x0, x1, x2, x3, x4, x5, x6, x7⟩ := px8 HB1.out
        by_cases x90 : x9 < 0
        all_goals
          go_wp2_with (at_builtin; refine wpList_append_Own _ rfl (.tmp 77) (.tmp 81) 25 rfl 67 i0 _ 5 40 Tryz.underlying25 hi0 hz0 hz1 hz2 rfl (by decide) (.slice ao k cap) k (avCells L) own (by simp [Act.eval]) (Own.alloc _ HO1.out) ⟨wt1.heap.size, 0, none⟩ 1 1 [.bool true, .bool false, .int .i64 0, .int .i64 29, .string s29] (by simp [Act.eval]) rfl (World.news_of_block (Blk.new _ _ _)) (by simp [Value.oneCell']) (by decide) (by simp only [maxLen]; omega) (by omega) ?_; intro ga2 offa2 capa2 wa2 owna2 hoa hina hua; have HOA := Lib.hid hoa; have HINA := Lib.hid hina; have HUA := Lib.hid hua; clear hoa hina hua; have hsz2 := HU1.out.size; have HO2 : Hid (Own wa2 67 5 (.slice (some ⟨ga2, offa2, none⟩) (k + 1) capa2) (k + 1) (avCells (L ++ [⟨true, false, 0, 29, s29⟩])) owna2) := (by show Own _ _ _ _ _ _ _; rw [avCells_append]; exact HOA.out); have HF2 : Hid (∀ k, k ∈ owna2 → w.heap.size ≤ k) := fun k hk => (HINA.out k hk).elim (HF.out k) (fun h => by simp at h; omega); have HU2 : Hid (Upd [] w wa2) := (HU1.out.alloc _).trans' HUA.out (fun y hy => .inr (HF.out y hy)); have HB2 : Hid (Blk wa2 w.heap.size 50 #[.slice a1 n1 c1, .slice a2 n2 c2, .slice a3 n3 c3, .int .i64 3, .int .i64 pi, .string pn, .string pv, .string py]) := (HB1.out.alloc _).upd HUA.out (fun hk => HO1.out.ne_blk HB1.out (by decide) hk); clear HOA HINA HUA; clear x0 x1 x2 x3 x4 x5 x6 x7; obtain ⟨x0, x1, x2, x3, x4, x5, x6, x7⟩ := px8 HB2.out)
          refine (rtext_any 30 pn _).mono ?_
          rintro e wt2 ⟨rfl, hut⟩
          have HO3 := Lib.hid (HO2.out.upd hut (by simp))
          have HB3 := Lib.hid (HB2.out.upd hut (by simp))
          have HU3 := Lib.hid (HU2.out.trans hut)
          clear hut
          clear x0 x1 x2 x3 x4 x5 x6 x7
          obtain ⟨x0, x1, x2, x3, x4, x5, x6, x7⟩ := px8 HB3.out
          go_wp2_with fail
          refine (H32.out _ _ (by first | omega | (rw [IntWalk.wrap64_in _ (by omega)]; omega)) HU3.out).mono ?_
          rintro e wt3 ⟨rfl, hut⟩
          have HO4 := Lib.hid (HO3.out.upd hut (by simp))
          have HB4 := Lib.hid (HB3.out.upd hut (by simp))
          have HU4 := Lib.hid (HU3.out.trans hut)
          clear hut
          clear x0 x1 x2 x3 x4 x5 x6 x7
          obtain ⟨x0, x1, x2, x3, x4, x5, x6, x7⟩ := px8 HB4.out
          go_wp2_with (at_builtin; refine wpList_append_Own _ rfl (.tmp 99) (.tmp 105) 25 rfl 67 i0 _ 5 40 Tryz.underlying25 hi0 hz0 hz1 hz2 rfl (by decide) (.slice (some ⟨ga2, offa2, none⟩) (k + 1) capa2) (k + 1) (avCells (L ++ [⟨true, false, 0, 29, s29⟩])) owna2 (by simp [Act.eval]) (Own.alloc _ HO4.out) ⟨wt3.heap.size, 0, none⟩ 2 2 [.bool true, .bool false, .int .i64 0, .int .i64 30, .string pn, .bool true, .bool false, .int .i64 0, .int .i64 32, .string s32] (by simp [Act.eval]) rfl (World.news_of_block (Blk.new _ _ _)) (by simp [Value.oneCell']) (by decide) (by simp only [maxLen]; omega) (by omega) ?_; intro ga5 offa5 capa5 wa5 owna5 hoa hina hua; have HOA := Lib.hid hoa; have HINA := Lib.hid hina; have HUA := Lib.hid hua; clear hoa hina hua; have hsz5 := HU4.out.size; have HO5 : Hid (Own wa5 67 5 (.slice (some ⟨ga5, offa5, none⟩) ((k + 1) + 2) capa5) ((k + 1) + 2) (avCells ((L ++ [⟨true, false, 0, 29, s29⟩]) ++ [textAv 30 pn, ⟨true, false, 0, 32, s32⟩])) owna5) := (by show Own _ _ _ _ _ _ _; rw [avCells_append]; exact HOA.out); have HF5 : Hid (∀ k, k ∈ owna5 → w.heap.size ≤ k) := fun k hk => (HINA.out k hk).elim (HF2.out k) (fun h => by simp at h; omega); have HU5 : Hid (Upd [] w wa5) := (HU4.out.alloc _).trans' HUA.out (fun y hy => .inr (HF2.out y hy)); have HB5 : Hid (Blk wa5 w.heap.size 50 #[.slice a1 n1 c1, .slice a2 n2 c2, .slice a3 n3 c3, .int .i64 3, .int .i64 pi, .string pn, .string pv, .string py]) := (HB4.out.alloc _).upd HUA.out (fun hk => HO4.out.ne_blk HB4.out (by decide) hk); clear HOA HINA HUA; clear x0 x1 x2 x3 x4 x5 x6 x7; obtain ⟨x0, x1, x2, x3, x4, x5, x6, x7⟩ := px8 HB5.out)
          refine (rtext_any 33 py _).mono ?_
          rintro e wt5 ⟨rfl, hut⟩
          have HO6 := Lib.hid (HO5.out.upd hut (by simp))
          have HB6 := Lib.hid (HB5.out.upd hut (by simp))
          have HU6 := Lib.hid (HU5.out.trans hut)
          clear hut
          clear x0 x1 x2 x3 x4 x5 x6 x7
          obtain ⟨x0, x1, x2, x3, x4, x5, x6, x7⟩ := px8 HB6.out
          go_wp2_with (at_builtin; refine wpList_append_Own _ rfl (.tmp 116) (.tmp 120) 25 rfl 67 i0 _ 5 40 Tryz.underlying25 hi0 hz0 hz1 hz2 rfl (by decide) (.slice (some ⟨ga5, offa5, none⟩) ((k + 1) + 2) capa5) ((k + 1) + 2) (avCells ((L ++ [⟨true, false, 0, 29, s29⟩]) ++ [textAv 30 pn, ⟨true, false, 0, 32, s32⟩])) owna5 (by simp [Act.eval]) (Own.alloc _ HO6.out) ⟨wt5.heap.size, 0, none⟩ 1 1 [.bool true, .bool false, .int .i64 0, .int .i64 33, .string py] (by simp [Act.eval]) rfl (World.news_of_block (Blk.new _ _ _)) (by simp [Value.oneCell']) (by decide) (by simp only [maxLen]; omega) (by omega) ?_; intro ga7 offa7 capa7 wa7 owna7 hoa hina hua; have HOA := Lib.hid hoa; have HINA := Lib.hid hina; have HUA := Lib.hid hua; clear hoa hina hua; have hsz7 := HU6.out.size; have HO7 : Hid (Own wa7 67 5 (.slice (some ⟨ga7, offa7, none⟩) (((k + 1) + 2) + 1) capa7) (((k + 1) + 2) + 1) (avCells (((L ++ [⟨true, false, 0, 29, s29⟩]) ++ [textAv 30 pn, ⟨true, false, 0, 32, s32⟩]) ++ [textAv 33 py])) owna7) := (by show Own _ _ _ _ _ _ _; rw [avCells_append]; exact HOA.out); have HF7 : Hid (∀ k, k ∈ owna7 → w.heap.size ≤ k) := fun k hk => (HINA.out k hk).elim (HF5.out k) (fun h => by simp at h; omega); have HU7 : Hid (Upd [] w wa7) := (HU6.out.alloc _).trans' HUA.out (fun y hy => .inr (HF5.out y hy)); have HB7 : Hid (Blk wa7 w.heap.size 50 #[.slice a1 n1 c1, .slice a2 n2 c2, .slice a3 n3 c3, .int .i64 3, .int .i64 pi, .string pn, .string pv, .string py]) := (HB6.out.alloc _).upd HUA.out (fun hk => HO6.out.ne_blk HB6.out (by decide) hk); clear HOA HINA HUA; clear x0 x1 x2 x3 x4 x5 x6 x7; obtain ⟨x0, x1, x2, x3, x4, x5, x6, x7⟩ := px8 HB7.out)
          go_ret
          rw [HRR.out]
          exact ⟨_, rfl, by have h := avs_own HO7.out; rw [HL3.out] at h; simpa using h, HU7.out⟩
      have e2 : (pk == 2) = false := by simpa using k2
      have e3 : (pk == 3) = false := by simpa using k3
      have e4 : (pk != 2) = true := by simpa using k2
      have e5 : (pk != 3) = true := by simpa using k3
      have HRR : Hid (R = P.link ++ [⟨true, false, 0, 29, s29⟩]) := HBU.out _ (by rw [HALL.out, if_neg k0, if_neg k2, if_neg k3, HS29.out]; rfl) (by intro x hx; simp at hx; subst hx; show s29.size ≤ 1000; rw [HS29.out, be_size]; omega)
      clear HBU HBAD HALL k0 k2 k3
      go_wp2_with fail
      refine (H29.out _ HU.out).mono ?_
      rintro e wt1 ⟨rfl, hut⟩
      have HO1 := Lib.hid (HO.out.upd hut (by simp))
      have HB1 := Lib.hid (HB.out.upd hut (by simp))
      have HU1 := Lib.hid (HU.out.trans hut)
      clear hut
      clear x0 x1 x2 x3 x4 x5 x6 x7
      obtain ⟨x0, x1, x2, x3, x4, x5, x6, x7⟩ := px8 HB1.out
      go_wp2_with (at_builtin; refine wpList_append_Own _ rfl (.tmp 77) (.tmp 81) 25 rfl 67 i0 _ 5 40 Tryz.underlying25 hi0 hz0 hz1 hz2 rfl (by decide) (.slice ao k cap) k (avCells L) own (by simp [Act.eval]) (Own.alloc _ HO1.out) ⟨wt1.heap.size, 0, none⟩ 1 1 [.bool true, .bool false, .int .i64 0, .int .i64 29, .string s29] (by simp [Act.eval]) rfl (World.news_of_block (Blk.new _ _ _)) (by simp [Value.oneCell']) (by decide) (by simp only [maxLen]; omega) (by omega) ?_; intro ga2 offa2 capa2 wa2 owna2 hoa hina hua; have HOA := Lib.hid hoa; have HINA := Lib.hid hina; have HUA := Lib.hid hua; clear hoa hina hua; have hsz2 := HU1.out.size; have HO2 : Hid (Own wa2 67 5 (.slice (some ⟨ga2, offa2, none⟩) (k + 1) capa2) (k + 1) (avCells (L ++ [⟨true, false, 0, 29, s29⟩])) owna2) := (by show Own _ _ _ _ _ _ _; rw [avCells_append]; exact HOA.out); have HF2 : Hid (∀ k, k ∈ owna2 → w.heap.size ≤ k) := fun k hk => (HINA.out k hk).elim (HF.out k) (fun h => by simp at h; omega); have HU2 : Hid (Upd [] w wa2) := (HU1.out.alloc _).trans' HUA.out (fun y hy => .inr (HF.out y hy)); have HB2 : Hid (Blk wa2 w.heap.size 50 #[.slice a1 n1 c1, .slice a2 n2 c2, .slice a3 n3 c3, .int .i64 pk, .int .i64 pi, .string pn, .string pv, .string py]) := (HB1.out.alloc _).upd HUA.out (fun hk => HO1.out.ne_blk HB1.out (by decide) hk); clear HOA HINA HUA; clear x0 x1 x2 x3 x4 x5 x6 x7; obtain ⟨x0, x1, x2, x3, x4, x5, x6, x7⟩ := px8 HB2.out)
      go_ret
      rw [HRR.out]
      exact ⟨_, rfl, by have h := avs_own HO2.out; rw [HL3.out] at h; simpa using h, HU2.out⟩
end Go.Proofs.YtljiichcmljbgaaGreat
