/- WRITTEN by wip/gen/calpl.py. The walk of the statement CallPlays. -/
import Derived.Deep.DeepCutAuto
import Derived.Deep.LoopGhost
import Derived.Deep.CutRange
import Derived.Deep.CutBlock
import Derived.Test.YtglafpdealjlnaaGreatQCalPlP
namespace Go.Proofs.YtglafpdealjlnaaGreat
open Go.RowKit
set_option linter.unusedSimpArgs false
set_option linter.unusedVariables false
set_option maxRecDepth 100000

set_option maxHeartbeats 8000000 in
theorem callPlays_any (cid serial : Int) (out : Bool) (l : List Cop) (v : Value) (w : World) (hl : CopsAt w v l) (hok : ∀ a ∈ l, CopOk a) :
    Calls Tryz.prog 4 #[.int .i64 cid, .int .i64 serial, .bool out, v] w fun e w' => e = .returned (.bool true) ∧ Upd [] w w' := by
  obtain ⟨aL, capL, rfl, hlc, hcm, -⟩ := id hl
  obtain ⟨L, hL⟩ : ∃ L, L = l.length := ⟨_, rfl⟩
  rw [← hL] at hl hlc ⊢
  have HIN := Lib.hid hl
  have HLL := Lib.hid hL
  have HOKS := Lib.hid hok
  simp only [maxLen] at hcm
  clear hl hL hok
  by_cases t0 : (100 : Int) < L
  ·
    go_enter Tryz.func4, Tryz.ntmps4
    go_wp2_with fail
    refine (alive22_any _).mono ?_
    rintro e w2 ⟨rfl, hu2⟩
    go_wp2_with fail
    go_ret
    exact ⟨rfl, hu2⟩
  by_cases t1 : 1 ≤ cid ∧ cid ≤ 65535 ∧ 0 ≤ serial ∧ serial < 4294967296
  rotate_left
  ·
    have HR := Lib.hid (rnewCall_any cid serial out)
    have HN := Lib.hid t1
    clear t1
    go_enter Tryz.func4, Tryz.ntmps4
    go_wp2_with fail
    refine (new_call_bad _ _ _ _ HN.out).mono ?_
    rintro e w1 ⟨rfl, rfl⟩
    go_wp2_with fail
    have hr := HR.out w
    simp only [if_neg HN.out] at hr
    refine hr.mono ?_
    rintro e w2 ⟨rfl, rfl⟩
    clear hr
    go_wp2_with fail
    refine (alive22_any _).mono ?_
    rintro e w3 ⟨rfl, hu3⟩
    go_wp2_with fail
    go_ret
    exact ⟨rfl, hu3⟩
  have HN := Lib.hid t1
  clear t1
  go_enter Tryz.func4, Tryz.ntmps4
  go_wp2_with fail
  refine (new_call cid serial out _ ⟨HN.out.1, HN.out.2.1⟩ ⟨HN.out.2.2.1, by have := HN.out.2.2.2; omega⟩).mono ?_
  rintro e w1 ⟨rfl, hc1, hu1⟩
  obtain ⟨b, hb⟩ : ∃ a, a = w.heap.size := ⟨_, rfl⟩
  rw [← hb] at hc1 ⊢
  have HC1 := Lib.hid hc1
  have HU1 := Lib.hid hu1
  have HBW : Hid (w.heap.size ≤ b) := by show _ ≤ _; omega
  clear hc1 hu1 hb
  go_wp2_with fail
  have hr := rnewCall_any cid serial out w1
  simp only [if_pos HN.out] at hr
  refine hr.mono ?_
  rintro e w2 ⟨rfl, hr2, hu2⟩
  clear hr
  obtain ⟨b', hb'⟩ : ∃ a, a = w1.heap.size := ⟨_, rfl⟩
  rw [← hb'] at hr2 ⊢
  have HR2 := Lib.hid hr2
  have HC2 := Lib.hid (HC1.out.upd hu2)
  have HBB : Hid (w.heap.size ≤ b' ∧ b' < w2.heap.size) := by
    have h1 := HU1.out.size
    exact ⟨by omega, hr2.lt⟩
  have HU2 := Lib.hid (HU1.out.trans hu2)
  clear hr2 hu2 hb' HC1 HU1
  go_wp2_with fail
  have hr := rnewCall_any 7 3 out w2
  simp only [if_pos (show (1 : Int) ≤ 7 ∧ (7 : Int) ≤ 65535 ∧ (0 : Int) ≤ 3 ∧ (3 : Int) < 4294967296 by decide)] at hr
  refine hr.mono ?_
  rintro e w3 ⟨rfl, hp3, hu3⟩
  clear hr
  obtain ⟨bp, hbp⟩ : ∃ a, a = w2.heap.size := ⟨_, rfl⟩
  rw [← hbp] at hp3 ⊢
  have HP3 := Lib.hid hp3
  have HC3 := Lib.hid (HC2.out.upd hu3)
  have HR3 := Lib.hid (HR2.out.upd hu3)
  have HBP : Hid (w.heap.size ≤ bp ∧ b' ≠ bp) := by
    have h1 := HU2.out.size
    have h2 := HBB.out
    exact ⟨by omega, by omega⟩
  have HU3 := Lib.hid (HU2.out.trans hu3)
  clear hp3 hu3 hbp HC2 HR2 HU2
  go_wp2_with (refine wpList_build_of rfl 49 rfl bkZ (bk_build _) ?_)
  have HK0 : Hid (∃ g, g = w3.heap.size ∧ Cp w (w3.alloc (Obj.cells bkZ 49)) b b' bp g (K.new cid serial out) (K.new cid serial out) (K.new 7 3 out) (.slice none 0 0) []) := by
    have hu : Upd [] w3 (w3.alloc (Obj.cells bkZ 49)) := (Upd.refl _ _).alloc _
    exact ⟨_, rfl, HC3.out.upd hu, HR3.out.upd hu, HP3.out.upd hu, ⟨[], RSaysAt.nil _, by simp⟩, HBP.out.2, ⟨HBW.out, HBB.out.1, HBP.out.1⟩, ⟨[], [], BkAS.zero w w3 HU3.out (by simp) rfl⟩⟩
  generalize w3.alloc (Obj.cells bkZ 49) = w8 at *
  obtain ⟨g, hg, HK⟩ := HK0.out
  rw [← hg]
  have HK1 := Lib.hid HK
  have HQ1 : Hid (KOk 1000 (K.new cid serial out)) := KOk.new (by decide) ⟨HN.out.1, HN.out.2.1⟩ ⟨HN.out.2.2.1, by have := HN.out.2.2.2; omega⟩
  have HQ2 : Hid (KOk 1000 (K.new 7 3 out)) := KOk.new (by decide) (by decide) (by decide)
  generalize K.new cid serial out = k0 at *
  generalize K.new 7 3 out = p0 at *
  clear HK HK0 hg HC3 HR3 HP3 HU3 HBB HBW HBP HN
  go_loopg [15, 17] L (fun mm s15 s17 wr => ∃ (j : Nat) (k p : K) (m : List Sy) (vm : Value), j + mm = L ∧ vm = s15 ∧ s17 = .int .i64 j ∧ Cp w wr b b' bp g k k p vm m ∧ KOk mm k ∧ KOk (2 * mm) p ∧ SaysOk (5 * (100 - mm)) m)
  case atStart => exact ⟨0, k0, p0, [], _, by omega, rfl, rfl, HK1.out, HQ1.out.mono (by omega), HQ2.out.mono (by omega), .nil _⟩
  case round =>
    obtain ⟨j, k, p, m, vm, hj, rfl, rfl, hP, hQ1, hQ2, hSM⟩ := hrel
    have HP := Lib.hid hP
    have HU := Lib.hid hP.ups
    have HKK := Lib.hid (And.intro hQ1 (And.intro hQ2 hSM))
    clear hP hQ1 hQ2 hSM HK1 HQ1 HQ2
    by_cases tj : j < L
    rotate_left
    ·
      obtain rfl : j = L := by omega
      go_wp2_with fail
      refine (alive22_any _).mono ?_
      rintro e w1 ⟨rfl, hu1⟩
      obtain ⟨RA, RS, hb1⟩ := (HP.out.keep hu1).bk
      have HB1 := Lib.hid hb1
      clear hu1 hb1
      go_wp2_with fail
      refine (apartAS_any HB1.out).mono ?_
      rintro e w2 ⟨rfl, hu2⟩
      go_wp2_with fail
      go_ret
      exact ⟨rfl, hu2⟩
    obtain ⟨op, hop⟩ : ∃ x, l[j]? = some x := ⟨_, List.getElem?_eq_getElem (by have := HLL.out; omega)⟩
    have hcok := HOKS.out op (List.mem_of_getElem? hop)
    obtain ⟨aL', capL', e0, -, -, h3⟩ := HIN.out.upd HU.out
    injection e0 with e0 e1 e2
    subst e0 e2
    clear e1
    obtain ⟨qp, rfl, hat⟩ := h3 j op hop
    obtain ⟨c0, c1, c2, c3, c4, c5, ⟨uu, c6, hav⟩, c7⟩ := hat
    obtain ⟨kd, nn, mt, ms, mns, mnr, lv, txt⟩ := op
    obtain ⟨hbn, hsl, hst⟩ := hcok
    have HSRC : Hid (∃ u0, AvsAt w u0 lv ∧ u0 = uu) := by
      obtain ⟨aL2, capL2, e0, -, -, h4⟩ := HIN.out
      injection e0 with e0 e1 e2
      obtain ⟨q2, e3, hat2⟩ := h4 j _ hop
      rw [e3] at e0
      injection e0 with e0
      subst e0
      obtain ⟨_, _, _, _, _, _, ⟨u2, d6, hv2⟩, _⟩ := hat2
      refine ⟨u2, hv2, ?_⟩
      have d6' := (HU.out.cell (cell_lt' d6) (by simp)).trans d6
      (try simp only at c6)
      (try simp only at d6')
      rw [c6] at d6'
      injection d6' with d6'
      exact d6'.symm
    obtain ⟨u0, hu0, rfl⟩ := HSRC.out
    have HSR : Hid (AvsAt w u0 lv) := hu0
    obtain ⟨au, cu, rfl, hcu1, hcu2, -⟩ := id hu0
    obtain ⟨n0, hn0⟩ : ∃ n, n = lv.length := ⟨_, rfl⟩
    (try simp only at c0)
    (try simp only at c1)
    (try simp only at c2)
    (try simp only at c3)
    (try simp only at c4)
    (try simp only at c5)
    (try simp only at c6)
    (try simp only at c7)
    (try simp only at hbn)
    (try simp only at hsl)
    (try simp only at hst)
    rw [← hn0] at HSR c6 hcu1 hav
    have HN0 := Lib.hid hn0
    have HCO := Lib.hid (And.intro hbn (And.intro hsl hst))
    simp only [maxLen] at hcu2
    clear h3 hop hu0 hn0 HSRC hbn hsl hst
    go_upto_region 15 with (fail)
    go_cut [18] from 69 to 299 (fun s18 V => ∃ gO, s18 = .pointer (some ⟨gO, 0, none⟩) ∧ Upd [] wr V ∧ Blk V gO 80 #[.int .i64 kd, .int .i64 nn, .int .i64 mt, .int .i64 ms, .int .i64 mns, .int .i64 mnr, .slice au n0 cu, .string txt])
    case first =>
      as_aux_lemma =>
      go_wp2_with fail
      go_meet
      case rel =>
        refine ⟨_, rfl, ?_, ?_⟩
        · repeat (first | exact Upd.refl _ _ | refine Upd.setCell _ ?_ (.inr (by simp)) | refine Upd.alloc _ ?_)
        · apply Blk.of_eq
          · repeat (with_reducible first | apply Blk.new | apply Blk.drewN | apply Blk.drew | apply Blk.set_)
          · rfl
    case rest =>
    obtain ⟨gO, rfl, hu3, hb3⟩ := hcut
    have HP1 := Lib.hid (HP.out.keep hu3)
    have HB1 := Lib.hid hb3
    have HU3 := Lib.hid (HU.out.trans hu3)
    have HAV := Lib.hid (HSR.out.upd HU3.out)
    clear HP HU hu3 c0 c1 c2 c3 c4 c5 c6 c7 hav
    have d6 := hb3.cell 6
    have d7 := hb3.cell 7
    simp only [List.size_toArray, List.length_cons, List.length_nil, List.getElem?_toArray, List.getElem?_cons_zero, List.getElem?_cons_succ] at d6 d7
    clear hb3
    by_cases tl : LightA lv = true
    rotate_left
    ·
      have tlb : LightA lv = false := by simpa using tl
      have HTL := Lib.hid tlb
      clear tl tlb
      go_wp2_with fail
      refine (lightA_any lv _ _ HAV.out HCO.out.2.1).mono ?_
      rintro e w4 ⟨rfl, hu4⟩
      rw [HTL.out]
      have HU4 := Lib.hid (HU3.out.trans hu4)
      clear hu4 d6 d7
      go_wp2_with fail
      go_ret
      exact ⟨rfl, HU4.out⟩
    have HTL := Lib.hid tl
    clear tl
    by_cases tx : (1200 : Int) < txt.size
    ·
      go_wp2_with fail
      refine (lightA_any lv _ _ HAV.out HCO.out.2.1).mono ?_
      rintro e w4 ⟨rfl, hu4⟩
      rw [HTL.out]
      have HU4 := Lib.hid (HU3.out.trans hu4)
      have d7' := (hu4.cell (cell_lt' d7) (by simp)).trans d7
      clear hu4 d6 d7
      go_wp2_with fail
      go_ret
      exact ⟨rfl, HU4.out⟩
    have hn50 : n0 ≤ 50 := by have := LightA_spec HTL.out; have := HN0.out; omega
    go_wp2_with fail
    refine (lightA_any lv _ _ HAV.out HCO.out.2.1).mono ?_
    rintro e w4 ⟨rfl, hu4⟩
    rw [HTL.out]
    have HU4 := Lib.hid (HU3.out.trans hu4)
    have HP4 := Lib.hid (HP1.out.keep hu4)
    have hb4 := HB1.out.upd hu4 (by simp)
    have HB4 := Lib.hid hb4
    have d7' := (hu4.cell (cell_lt' d7) (by simp)).trans d7
    have d2 := hb4.cell 2
    have d3 := hb4.cell 3
    have d4 := hb4.cell 4
    have d5 := hb4.cell 5
    have d6' := hb4.cell 6
    simp only [List.size_toArray, List.length_cons, List.length_nil, List.getElem?_toArray, List.getElem?_cons_zero, List.getElem?_cons_succ] at d2 d3 d4 d5 d6'
    clear hu4 d6 d7 hb4 HP1 HB1 HU3 HAV
    go_upto_region 20 with (fail)
    go_cut [19, 20, 21] from 69 to 299 (fun s19 s20 s21 V => s19 = .slice none 0 0 ∧ s20 = .slice none 0 0 ∧ ∃ gM, s21 = .pointer (some ⟨gM, 0, none⟩) ∧ Upd [] w4 V ∧ Blk V gM 24 #[.int .i64 mt, .int .i64 ms, .int .i64 mns, .int .i64 mnr, .slice au n0 cu] ∧ w.heap.size ≤ gM)
    case first =>
      as_aux_lemma =>
      go_wp2_with fail
      go_meet
      case rel =>
        refine ⟨rfl, rfl, _, rfl, ?_, ?_, ?_⟩
        · repeat (first | exact Upd.refl _ _ | refine Upd.setCell _ ?_ (.inr (by simp)) | refine Upd.alloc _ ?_)
        · apply Blk.of_eq
          · repeat (with_reducible first | apply Blk.new | apply Blk.drewN | apply Blk.drew | apply Blk.set_)
          · rfl
        · first | exact HU4.out.size | (have := HU4.out.size; simpa using this)
    case rest =>
    obtain ⟨rfl, rfl, gM, rfl, hu5, hb5, hgM⟩ := hcut
    have HGM := Lib.hid hgM
    clear hgM
    have HP5 := Lib.hid (HP4.out.keep hu5)
    have HB5 : Hid (Bxs wc gO gM #[.int .i64 kd, .int .i64 nn, .int .i64 mt, .int .i64 ms, .int .i64 mns, .int .i64 mnr, .slice au n0 cu, .string txt] #[.int .i64 mt, .int .i64 ms, .int .i64 mns, .int .i64 mnr, .slice au n0 cu]) := ⟨HB4.out.upd hu5 (by simp), hb5⟩
    have HSRC : Hid (Src w wc (.slice au n0 cu) lv) := .inl ⟨HSR.out, HU4.out.trans hu5⟩
    have HTX : Hid (txt.size ≤ maxLen) := Nat.le_trans HCO.out.2.2 (by decide)
    have HLS : Hid ((∀ a ∈ lv, a.val.size ≤ maxLen) ∧ lv.length ≤ 50) := ⟨fun a ha => Nat.le_trans (HCO.out.2.1 a ha) (by decide), LightA_spec HTL.out⟩
    obtain ⟨m1, hm1⟩ : ∃ x, L = j + (x + 1) := ⟨L - j - 1, by omega⟩
    have HKK : Hid (KOk (m1 + 1) k ∧ KOk (2 * (m1 + 1)) p ∧ SaysOk (5 * (100 - (m1 + 1))) m) := ⟨HKK.out.1.mono (by omega), HKK.out.2.1.mono (by omega), HKK.out.2.2.mono (by omega)⟩
    have HM1 := Lib.hid hm1
    clear hm1
    clear hu5 hb5 HP4 HB4 HU4 HTL d7' d2 d3 d4 d5 d6'
    have hbo := HB5.out.o
    have d0 := hbo.cell 0
    have d1 := hbo.cell 1
    have d6 := hbo.cell 6
    have d7 := hbo.cell 7
    simp only [List.size_toArray, List.length_cons, List.length_nil, List.getElem?_toArray, List.getElem?_cons_zero, List.getElem?_cons_succ] at d0 d1 d6 d7
    clear hbo
    go_upto_block 2 with (fail)
    go_cut [15, 19, 20] from 69 to 299 (fun s15 s19 s20 V => ∃ vm va vb : Value, vm = s15 ∧ va = s19 ∧ vb = s20 ∧ SwEnd w V b b' bp g gO gM #[.int .i64 kd, .int .i64 nn, .int .i64 mt, .int .i64 ms, .int .i64 mns, .int .i64 mnr, .slice au n0 cu, .string txt] kd m1 vm va vb)
    case first =>
      by_cases k1 : kd = 1
      · have k1' : (kd == 1) = true := by simp [k1]
        clear k1
        as_aux_lemma =>
          go_wp2_with fail
          refine (HP5.out.open_ HKK.out.1).mono ?_
          rintro e w6 ⟨v6, rfl, h6, f6⟩
          have H6 := Lib.hid (And.intro h6 (HB5.out.fr f6))
          have HS6 := Lib.hid (HSRC.out.updT f6 (by decide))
          clear h6 f6 HP5 HB5 HSRC d0 d1 d6 d7
          go_wp2_with fail
          refine (H6.out.1.ropen HKK.out.1 rfl).mono ?_
          rintro e w7 ⟨v7, us, om, ob, rfl, h7, f7⟩
          have H7 := Lib.hid (And.intro h7 (H6.out.2.fr f7))
          have HS7 := Lib.hid (HS6.out.updT f7 (by decide))
          clear h7 f7 H6 HS6
          go_wp2_with fail
          go_meet
          case rel => exact ⟨_, _, _, rfl, rfl, rfl, ⟨_, p, m, _, us, om, ob, mt, ms, mns, mnr, _, lv, H7.out.1, H7.out.2, HS7.out, HLS.out.1, Nat.le_trans HLS.out.2 (by decide), HKK.out.1.openC.1, HKK.out.2.1, HKK.out.1.openC.2, HKK.out.2.2.mono (by omega), HLS.out.1⟩⟩
      have k1' : (kd == 1) = false := by simpa using k1
      by_cases k3 : kd = 3
      · have k3' : (kd == 3) = true := by simp [k3]
        clear k3
        as_aux_lemma =>
          have HRD : Hid (Rd wc 5 (.slice au n0 cu) lv.length (lv.flatMap bkCAvps)) := by
            have h := HSRC.out.avs.rd
            rw [avCells_bk] at h
            exact h
          go_wp2_with fail
          refine (bkLentAvps lv _ _ HRD.out (by have := HLS.out.2; omega)).mono ?_
          rintro e w6 ⟨vx, ox, rfl, hlx, hfx, hu6⟩
          obtain ⟨gx, ofx, cx, rfl, hox⟩ := id hlx
          have hoc : ox = [gx] ∧ ∃ cs, Blk w6 gx 85 cs ∧ ofx + (lv.length + 1) * 5 ≤ cs.size := by
            rcases hox.2 with ⟨hv, _⟩ | ⟨g2, o2, c2, cur, hv, ho, hg2, hn2, hm2, hs2, -⟩
            · cases hv
            · injection hv with hv _ hv2
              injection hv with hv
              injection hv with hv hv1
              subst hv hv1 hv2
              exact ⟨ho, cur, hg2, by omega⟩
          obtain ⟨rfl, cs6, hg6, hz6⟩ := hoc
          have hcx := hox.shape
          obtain ⟨ax, cx', ex, hcx1, hcx2⟩ := hcx
          injection ex with _ _ ex2
          subst ex2
          obtain ⟨qx, hqx⟩ : ∃ q, q = (⟨gx, ofx, none⟩ : Addr) := ⟨_, rfl⟩
          rw [← hqx, ← HN0.out] at hlx
          rw [← HN0.out] at hz6 hcx1
          rw [← hqx, ← HN0.out]
          have HQX := Lib.hid hqx
          have HW6 := Lib.hid (HP5.out.lent (X := [gx]) hu6 hfx (fun x hx => by simp at hx; subst hx; exact ⟨_, hg6⟩))
          have HG6 := Lib.hid hg6
          have HB6 := Lib.hid (HB5.out.upd hu6)
          have HS6 := Lib.hid (HSRC.out.upd hu6)
          have hav6 := AvsAt.of_own (hlx.own bkCAvps_len)
          have HA6 : Hid (AvsAt w6 (.slice (some qx) n0 cx) lv) := hav6
          have HLX := Lib.hid hlx
          simp only [maxLen] at hcx2
          clear hlx hfx hu6 hox hqx hav6 hg6 HP5 HB5 HSRC HRD d0 d1 d6 d7
          have hbo := HB6.out.o
          have d6 := hbo.cell 6
          simp only [List.size_toArray, List.length_cons, List.length_nil, List.getElem?_toArray, List.getElem?_cons_zero, List.getElem?_cons_succ] at d6
          clear hbo
          go_wp2_with fail
          refine (HW6.out.with_ HKK.out.1 lv _ HA6.out (by have := HLS.out.2; omega)).mono ?_
          rintro e w7 ⟨rfl, h7, f7⟩
          have HW7 := Lib.hid h7
          have HB7 := Lib.hid (HB6.out.fr (f7.mono (by simp)))
          have HS7 := Lib.hid (HS6.out.updT f7 (by decide))
          have HLX7 := Lib.hid (HLX.out.updT f7 (by decide))
          have HG7 := Lib.hid (HG6.out.updT f7 (by decide))
          clear h7 f7 HW6 HB6 HS6 HLX HA6 HG6 d6
          have hbo := HB7.out.o
          have d6 := hbo.cell 6
          simp only [List.size_toArray, List.length_cons, List.length_nil, List.getElem?_toArray, List.getElem?_cons_zero, List.getElem?_cons_succ] at d6
          clear hbo
          go_wp2_with fail
          refine (HW7.out.rwith lv _ HS7.out.avs (by have := HLS.out.2; omega)).mono ?_
          rintro e w8 ⟨rfl, h8, f8⟩
          have HW8 := Lib.hid h8
          have HB8 := Lib.hid (HB7.out.fr (f8.mono (by simp)))
          have HS8 := Lib.hid (HS7.out.updT f8 (by decide))
          have HLX8 := Lib.hid (HLX7.out.updT f8 (by decide))
          have HG8 := Lib.hid (HG7.out.updT f8 (by decide))
          clear h8 f8 HW7 HB7 HS7 HLX7 HG7 d6
          have hbo := HB8.out.o
          have d6 := hbo.cell 6
          simp only [List.size_toArray, List.length_cons, List.length_nil, List.getElem?_toArray, List.getElem?_cons_zero, List.getElem?_cons_succ] at d6
          clear hbo
          have HRD8 : Hid (Rd w8 5 (.slice au n0 cu) lv.length (lv.flatMap bkCAvps)) := by
            have h := HS8.out.avs.rd
            rw [avCells_bk] at h
            exact h
          go_wp2_with fail
          refine (bkStaysAvps lv _ _ _ _ HLX8.out HRD8.out).mono ?_
          rintro e w9 ⟨rfl, hu9⟩
          have HW9 := Lib.hid (HW8.out.keep hu9)
          have HB9 := Lib.hid (HB8.out.upd hu9)
          have HG9 := Lib.hid (HG8.out.upd hu9 (by simp))
          have HZ6 := Lib.hid hz6
          clear hu9 HW8 HB8 HS8 HLX8 HG8 HRD8 d6 hz6
          go_wp2_with fail
          go_loopg [23] n0 (fun x s23 wq => ∃ j2 : Nat, j2 + x = n0 ∧ s23 = .int .i64 j2 ∧ CpW w wc wq b b' bp g k k { k with with_ := lv } { k with with_ := lv } p vm m [gx] ∧ Bxs wq gO gM #[.int .i64 kd, .int .i64 nn, .int .i64 mt, .int .i64 ms, .int .i64 mns, .int .i64 mnr, .slice au n0 cu, .string txt] #[.int .i64 mt, .int .i64 ms, .int .i64 mns, .int .i64 mnr, .slice au n0 cu] ∧ ∃ cs, Blk wq gx 85 cs ∧ cs.size = cs6.size)
          case atStart => exact ⟨0, by omega, rfl, HW9.out, HB9.out, _, HG9.out, rfl⟩
          case round =>
            obtain ⟨j2, hj2, rfl, hw, hbq, csq, hgq, hzq⟩ := hrel
            have HWQ := Lib.hid hw
            have HBQ := Lib.hid hbq
            clear HW9 HB9 HG9 hw hbq
            by_cases tj2 : j2 < n0
            · have e1 : qx.add (j2 * 5) = ⟨gx, ofx + j2 * 5, none⟩ := by rw [HQX.out, add_plain']
              have hlt3 : ofx + j2 * 5 + 3 < csq.size := by have := HZ6.out; omega
              have c3 : wr.cell? ⟨(qx.add (j2 * 5)).block, (qx.add (j2 * 5)).off + 3, none⟩ = some csq[ofx + j2 * 5 + 3] := by
                rw [e1, hgq.cell]
                exact Array.getElem?_eq_getElem hlt3
              have f3 : wr.frozen? ⟨(qx.add (j2 * 5)).block, (qx.add (j2 * 5)).off + 3, none⟩ = false := by rw [e1]; exact hgq.frozen _
              have l3 : (qx.add (j2 * 5)).block < wr.heap.size := by rw [e1]; exact hgq.lt
              have HSET : Hid (CpW w wc (wr.setCell ⟨(qx.add (j2 * 5)).block, (qx.add (j2 * 5)).off + 3, none⟩ (.int .i64 99)) b b' bp g k k { k with with_ := lv } { k with with_ := lv } p vm m [gx] ∧ Bxs (wr.setCell ⟨(qx.add (j2 * 5)).block, (qx.add (j2 * 5)).off + 3, none⟩ (.int .i64 99)) gO gM #[.int .i64 kd, .int .i64 nn, .int .i64 mt, .int .i64 ms, .int .i64 mns, .int .i64 mnr, .slice au n0 cu, .string txt] #[.int .i64 mt, .int .i64 ms, .int .i64 mns, .int .i64 mnr, .slice au n0 cu] ∧
                  ∃ cs, Blk (wr.setCell ⟨(qx.add (j2 * 5)).block, (qx.add (j2 * 5)).off + 3, none⟩ (.int .i64 99)) gx 85 cs ∧ cs.size = cs6.size) := by
                have hb := hgq.set_ (ofx + j2 * 5 + 3) (.int .i64 99)
                rw [e1]
                have hu : Upd [gx] wr (wr.setCell ⟨gx, ofx + j2 * 5 + 3, none⟩ (.int .i64 99)) := (Upd.refl _ _).setCell _ (.inl (by simp))
                refine ⟨HWQ.out.write hu (fun x hx => by simp at hx; subst hx; exact ⟨_, hb⟩), ⟨HBQ.out.o.upd hu (by simp; exact HBQ.out.o.ne_ hgq (by decide)), HBQ.out.m.upd hu (by simp; exact HBQ.out.m.ne_ hgq (by decide))⟩, _, hb, by simpa using hzq⟩
              generalize csq[ofx + j2 * 5 + 3] = u3 at c3
              clear e1 hlt3 hgq hzq
              go_wp2_with fail
              go_roundg (n0 - (j2 + 1))
              case rel => exact ⟨j2 + 1, by omega, by go_num, HSET.out⟩
              case measure => omega
            · obtain rfl : j2 = n0 := by omega
              go_wp2_with fail
              go_meet
              case rel =>
                have hcp := HWQ.out.done
                obtain ⟨om, hn⟩ := hcp.none_
                exact ⟨_, _, _, rfl, rfl, rfl, ⟨{ k with with_ := lv }, p, m, [], [], om, [], mt, ms, mns, mnr, _, lv, hn, HBQ.out, (.inl ⟨HSR.out, hcp.ups⟩), HLS.out.1, Nat.le_trans HLS.out.2 (by decide), HKK.out.1.with_ (by have := HLS.out.2; omega) HLS.out.1, HKK.out.2.1, .nil _, HKK.out.2.2.mono (by omega), HLS.out.1⟩⟩
      have k3' : (kd == 3) = false := by simpa using k3
      by_cases k4 : kd = 4
      · have k4' : (kd == 4) = true := by simp [k4]
        clear k4
        as_aux_lemma =>
          have HA0 : Hid (CA w wc b b' bp g gO gM #[.int .i64 kd, .int .i64 nn, .int .i64 mt, .int .i64 ms, .int .i64 mns, .int .i64 mnr, .slice au n0 cu, .string txt] #[.int .i64 mt, .int .i64 ms, .int .i64 mns, .int .i64 mnr, .slice au n0 cu] (.slice au n0 cu) lv k p vm m) := ⟨HP5.out, HB5.out, HSRC.out⟩
          have HT1 : Hid (∀ W, CA w W b b' bp g gO gM #[.int .i64 kd, .int .i64 nn, .int .i64 mt, .int .i64 ms, .int .i64 mns, .int .i64 mnr, .slice au n0 cu, .string txt] #[.int .i64 mt, .int .i64 ms, .int .i64 mns, .int .i64 mnr, .slice au n0 cu] (.slice au n0 cu) lv k p vm m → Calls Tryz.prog 41 #[.pointer (some ⟨b, 0, none⟩), .int .i64 nn] W fun e w' => ∃ v, e = .returned v ∧ CB w w' b b' bp g gO gM #[.int .i64 kd, .int .i64 nn, .int .i64 mt, .int .i64 ms, .int .i64 mns, .int .i64 mnr, .slice au n0 cu, .string txt] #[.int .i64 mt, .int .i64 ms, .int .i64 mns, .int .i64 mnr, .slice au n0 cu] (.slice au n0 cu) lv (k.close nn).1 k p vm m (k.close nn).2 v) := fun W h => (h.c.close_ HKK.out.1 nn).mono fun e w' ⟨v, he, h1, h2⟩ => ⟨v, he, h1, h.x.fr h2, h.s.updT h2 (by decide)⟩
          have HT2 : Hid (∀ v W, CB w W b b' bp g gO gM #[.int .i64 kd, .int .i64 nn, .int .i64 mt, .int .i64 ms, .int .i64 mns, .int .i64 mnr, .slice au n0 cu, .string txt] #[.int .i64 mt, .int .i64 ms, .int .i64 mns, .int .i64 mnr, .slice au n0 cu] (.slice au n0 cu) lv (k.close nn).1 k p vm m (k.close nn).2 v → Calls Tryz.prog 42 #[.pointer (some ⟨b', 0, none⟩), .int .i64 nn] W fun e w' => ∃ v', e = .returned v' ∧ CD w w' b b' bp g gO gM #[.int .i64 kd, .int .i64 nn, .int .i64 mt, .int .i64 ms, .int .i64 mns, .int .i64 mnr, .slice au n0 cu, .string txt] #[.int .i64 mt, .int .i64 ms, .int .i64 mns, .int .i64 mnr, .slice au n0 cu] (.slice au n0 cu) lv (k.close nn).1 p vm m (k.close nn).2 v v') := fun v W h => (h.c.rclose HKK.out.1 nn HCO.out.1 rfl).mono fun e w' ⟨v', us, om, ob, he, h1, h2⟩ => ⟨v', he, ⟨us, om, ob, h1⟩, h.x.fr h2, h.s.updT h2 (by decide)⟩
          have HBX : Hid (∀ vs W, chU (fun W => CA w W b b' bp g gO gM #[.int .i64 kd, .int .i64 nn, .int .i64 mt, .int .i64 ms, .int .i64 mns, .int .i64 mnr, .slice au n0 cu, .string txt] #[.int .i64 mt, .int .i64 ms, .int .i64 mns, .int .i64 mnr, .slice au n0 cu] (.slice au n0 cu) lv k p vm m) (fun v W => CB w W b b' bp g gO gM #[.int .i64 kd, .int .i64 nn, .int .i64 mt, .int .i64 ms, .int .i64 mns, .int .i64 mnr, .slice au n0 cu, .string txt] #[.int .i64 mt, .int .i64 ms, .int .i64 mns, .int .i64 mnr, .slice au n0 cu] (.slice au n0 cu) lv (k.close nn).1 k p vm m (k.close nn).2 v) (fun v v' W => CD w W b b' bp g gO gM #[.int .i64 kd, .int .i64 nn, .int .i64 mt, .int .i64 ms, .int .i64 mns, .int .i64 mnr, .slice au n0 cu, .string txt] #[.int .i64 mt, .int .i64 ms, .int .i64 mns, .int .i64 mnr, .slice au n0 cu] (.slice au n0 cu) lv (k.close nn).1 p vm m (k.close nn).2 v v') vs W → Bxs W gO gM #[.int .i64 kd, .int .i64 nn, .int .i64 mt, .int .i64 ms, .int .i64 mns, .int .i64 mnr, .slice au n0 cu, .string txt] #[.int .i64 mt, .int .i64 ms, .int .i64 mns, .int .i64 mnr, .slice au n0 cu]) := fun vs W h => h.any (fun _ h => h.x) (fun _ _ h => h.x) (fun _ _ _ h => h.x)
          clear HP5 HB5 HSRC d0 d1 d6 d7
          go_wp2_with fail
          refine wp_region_chain [some (.pointer (some ⟨b, 0, none⟩)), some (.pointer (some ⟨gO, 1, none⟩)), some (.int .i64 nn), none, some (.pointer (some ⟨b', 0, none⟩)), some (.pointer (some ⟨gO, 1, none⟩)), some (.int .i64 nn), none, none, none] [3,7,8,9] (chU (fun W => CA w W b b' bp g gO gM #[.int .i64 kd, .int .i64 nn, .int .i64 mt, .int .i64 ms, .int .i64 mns, .int .i64 mnr, .slice au n0 cu, .string txt] #[.int .i64 mt, .int .i64 ms, .int .i64 mns, .int .i64 mnr, .slice au n0 cu] (.slice au n0 cu) lv k p vm m) (fun v W => CB w W b b' bp g gO gM #[.int .i64 kd, .int .i64 nn, .int .i64 mt, .int .i64 ms, .int .i64 mns, .int .i64 mnr, .slice au n0 cu, .string txt] #[.int .i64 mt, .int .i64 ms, .int .i64 mns, .int .i64 mnr, .slice au n0 cu] (.slice au n0 cu) lv (k.close nn).1 k p vm m (k.close nn).2 v) (fun v v' W => CD w W b b' bp g gO gM #[.int .i64 kd, .int .i64 nn, .int .i64 mt, .int .i64 ms, .int .i64 mns, .int .i64 mnr, .slice au n0 cu, .string txt] #[.int .i64 mt, .int .i64 ms, .int .i64 mns, .int .i64 mnr, .slice au n0 cu] (.slice au n0 cu) lv (k.close nn).1 p vm m (k.close nn).2 v v')) [(0, 0), (0, 0), (0, 0), (0, 0), (0, 1), (0, 1), (0, 1), (1, 1), (2, 2), (3, 3)] (by kernel_rfl) (by kernel_rfl) (by kernel_rfl) (by kernel_rfl) (by kernel_rfl) (by kernel_rfl) (HA0.out.keep (Upd.refl _ _).drew) ?_ ?_
          · refine StepsC.cons ?_ (StepsC.cons ?_ (StepsC.cons ?_ (StepsC.cons ?_ (StepsC.cons ?_ (StepsC.cons ?_ (StepsC.cons ?_ (StepsC.cons ?_ (StepsC.cons ?_ (StepsC.cons ?_ StepsC.nil)))))))))
            · refine chain_is _ (.inl rfl) ⟨_, rfl⟩ (by kernel_rfl) rfl ?_
              intro a W kst l0 h0 A0 hF hD
              have k0 : kst = 0 := Nat.le_antisymm h0 l0
              subst k0
              clear l0 h0
              have e9 : a.tmps[9]?.getD undef = _ := (ev a 9).symm.trans (hF 9 (by kernel_rfl))
              clear hF hD
              go_simp
            · refine chain_is _ (.inl rfl) ⟨_, rfl⟩ (by kernel_rfl) rfl ?_
              intro a W kst l0 h0 A0 hF hD
              have k0 : kst = 0 := Nat.le_antisymm h0 l0
              subst k0
              clear l0 h0
              have e18 : a.tmps[18]?.getD undef = _ := (ev a 18).symm.trans (hF 18 (by kernel_rfl))
              clear hF hD
              go_simp
            · refine chain_is _ (.inl rfl) ⟨_, rfl⟩ (by kernel_rfl) rfl ?_
              intro a W kst l0 h0 A0 hF hD
              have k0 : kst = 0 := Nat.le_antisymm h0 l0
              subst k0
              clear l0 h0
              have e133 : a.tmps[133]?.getD undef = .pointer (some ⟨gO, 1, none⟩) := (ev a 133).symm.trans (hD _ (Array.mem_of_getElem? (i := 0) rfl) rfl)
              clear hF hD
              have hbx := (HBX.out _ _ A0).o
              have d1 := hbx.cell 1
              have d7 := hbx.cell 7
              simp only [List.size_toArray, List.length_cons, List.length_nil, List.getElem?_toArray, List.getElem?_cons_zero, List.getElem?_cons_succ] at d1 d7
              go_simp
            · refine chain_call (.inl rfl) ⟨_, rfl⟩ (by kernel_rfl) ?_
              intro a W kst l0 h0 A0 hF hD
              have k0 : kst = 0 := Nat.le_antisymm h0 l0
              subst k0
              clear l0 h0
              have e132 : a.tmps[132]?.getD undef = .pointer (some ⟨b, 0, none⟩) := (ev a 132).symm.trans (hD _ (Array.mem_of_getElem? (i := 0) rfl) rfl)
              have e134 : a.tmps[134]?.getD undef = .int .i64 nn := (ev a 134).symm.trans (hD _ (Array.mem_of_getElem? (i := 1) rfl) rfl)
              clear hF hD
              refine ⟨_, _, by (go_simp; first | done | rfl | exact ⟨rfl, rfl⟩), ?_⟩
              refine (HT1.out _ A0).mono ?_
              rintro e w2 ⟨v, rfl, h⟩
              exact ⟨v, rfl, trivial, h⟩
            · refine chain_is _ (.inl rfl) ⟨_, rfl⟩ (by kernel_rfl) rfl ?_
              intro a W kst l0 h0 A0 hF hD
              have e11 : a.tmps[11]?.getD undef = _ := (ev a 11).symm.trans (hF 11 (by kernel_rfl))
              clear hF hD
              go_simp
            · refine chain_is _ (.inl rfl) ⟨_, rfl⟩ (by kernel_rfl) rfl ?_
              intro a W kst l0 h0 A0 hF hD
              have e18 : a.tmps[18]?.getD undef = _ := (ev a 18).symm.trans (hF 18 (by kernel_rfl))
              clear hF hD
              go_simp
            · refine chain_is _ (.inl rfl) ⟨_, rfl⟩ (by kernel_rfl) rfl ?_
              intro a W kst l0 h0 A0 hF hD
              have e137 : a.tmps[137]?.getD undef = .pointer (some ⟨gO, 1, none⟩) := (ev a 137).symm.trans (hD _ (Array.mem_of_getElem? (i := 0) rfl) rfl)
              clear hF hD
              have hbx := (HBX.out _ _ A0).o
              have d1 := hbx.cell 1
              have d7 := hbx.cell 7
              simp only [List.size_toArray, List.length_cons, List.length_nil, List.getElem?_toArray, List.getElem?_cons_zero, List.getElem?_cons_succ] at d1 d7
              go_simp
            · refine chain_call (.inl rfl) ⟨_, rfl⟩ (by kernel_rfl) ?_
              intro a W kst l0 h0 A0 hF hD
              have k0 : kst = 1 := Nat.le_antisymm h0 l0
              subst k0
              clear l0 h0
              have e136 : a.tmps[136]?.getD undef = .pointer (some ⟨b', 0, none⟩) := (ev a 136).symm.trans (hD _ (Array.mem_of_getElem? (i := 0) rfl) rfl)
              have e138 : a.tmps[138]?.getD undef = .int .i64 nn := (ev a 138).symm.trans (hD _ (Array.mem_of_getElem? (i := 1) rfl) rfl)
              clear hF hD
              refine ⟨_, _, by (go_simp; first | done | rfl | exact ⟨rfl, rfl⟩), ?_⟩
              refine (HT2.out _ _ A0).mono ?_
              rintro e w2 ⟨v, rfl, h⟩
              exact ⟨v, rfl, trivial, h⟩
            · refine chain_run (.inl rfl) ⟨_, rfl⟩ (by kernel_rfl) ?_
              intro a W kst l0 h0 A0 hF hD
              have k0 : kst = 2 := Nat.le_antisymm h0 l0
              subst k0
              clear l0 h0
              clear hF hD
              exact ⟨_, W, by (go_simp; first | done | rfl), trivial, A0, (ev a 135).symm⟩
            · refine chain_run (.inl rfl) ⟨_, rfl⟩ (by kernel_rfl) ?_
              intro a W kst l0 h0 A0 hF hD
              have k0 : kst = 3 := Nat.le_antisymm h0 l0
              subst k0
              clear l0 h0
              clear hF hD
              exact ⟨_, W, by (go_simp; first | done | rfl), trivial, A0.1, A0.2, (ev a 139).symm⟩
          intro vals W hv hA
          have v0 : vals 0 = .pointer (some ⟨b, 0, none⟩) := hv 0 (by decide)
          have v1 : vals 1 = .pointer (some ⟨gO, 1, none⟩) := hv 1 (by decide)
          have v2 : vals 2 = .int .i64 nn := hv 2 (by decide)
          have v4 : vals 4 = .pointer (some ⟨b', 0, none⟩) := hv 4 (by decide)
          have v5 : vals 5 = .pointer (some ⟨gO, 1, none⟩) := hv 5 (by decide)
          have v6 : vals 6 = .int .i64 nn := hv 6 (by decide)
          clear hv
          obtain ⟨hpe, h9, h10⟩ := hA
          have v8 : vals 8 = vals 3 := h9
          have v9 : vals 9 = vals 7 := h10
          simp only [putAll, Act.put, Nat.zero_add, Nat.reduceAdd, v8, v9, v0, v1, v2, v4, v5, v6, List.setIfInBounds_toArray, List.set_cons_zero, List.set_cons_succ]
          clear v0 v1 v2 v4 v5 v6
          clear h9 h10 v8 v9
          generalize vals 3 = va at *
          generalize vals 7 = vb at *
          have HPE := Lib.hid hpe
          clear HT1 HT2 HBX HA0 hpe
          go_wp2_with fail
          go_meet
          case rel =>
            obtain ⟨us, om, ob, hcd⟩ := HPE.out.c
            exact ⟨_, _, _, rfl, rfl, rfl, ⟨_, p, m, _, us, om, ob, mt, ms, mns, mnr, _, lv, hcd, HPE.out.x, HPE.out.s, HLS.out.1, Nat.le_trans HLS.out.2 (by decide), (HKK.out.1.close nn).1, HKK.out.2.1, (HKK.out.1.close nn).2, HKK.out.2.2.mono (by omega), HLS.out.1⟩⟩
      have k4' : (kd == 4) = false := by simpa using k4
      by_cases k5 : kd = 5
      · have k5' : (kd == 5) = true := by simp [k5]
        clear k5
        as_aux_lemma =>
          have HA0 : Hid (CA w wc b b' bp g gO gM #[.int .i64 kd, .int .i64 nn, .int .i64 mt, .int .i64 ms, .int .i64 mns, .int .i64 mnr, .slice au n0 cu, .string txt] #[.int .i64 mt, .int .i64 ms, .int .i64 mns, .int .i64 mnr, .slice au n0 cu] (.slice au n0 cu) lv k p vm m) := ⟨HP5.out, HB5.out, HSRC.out⟩
          have HT1 : Hid (∀ W, CA w W b b' bp g gO gM #[.int .i64 kd, .int .i64 nn, .int .i64 mt, .int .i64 ms, .int .i64 mns, .int .i64 mnr, .slice au n0 cu, .string txt] #[.int .i64 mt, .int .i64 ms, .int .i64 mns, .int .i64 mnr, .slice au n0 cu] (.slice au n0 cu) lv k p vm m → Calls Tryz.prog 43 #[.pointer (some ⟨b, 0, none⟩), .string txt] W fun e w' => ∃ v, e = .returned v ∧ CB w w' b b' bp g gO gM #[.int .i64 kd, .int .i64 nn, .int .i64 mt, .int .i64 ms, .int .i64 mns, .int .i64 mnr, .slice au n0 cu, .string txt] #[.int .i64 mt, .int .i64 ms, .int .i64 mns, .int .i64 mnr, .slice au n0 cu] (.slice au n0 cu) lv k k p vm m (k.tell 15 34 txt) v) := fun W h => (h.c.errors_ HKK.out.1 txt HTX.out).mono fun e w' ⟨v, he, h1, h2⟩ => ⟨v, he, h1, h.x.fr h2, h.s.updT h2 (by decide)⟩
          have HT2 : Hid (∀ v W, CB w W b b' bp g gO gM #[.int .i64 kd, .int .i64 nn, .int .i64 mt, .int .i64 ms, .int .i64 mns, .int .i64 mnr, .slice au n0 cu, .string txt] #[.int .i64 mt, .int .i64 ms, .int .i64 mns, .int .i64 mnr, .slice au n0 cu] (.slice au n0 cu) lv k k p vm m (k.tell 15 34 txt) v → Calls Tryz.prog 44 #[.pointer (some ⟨b', 0, none⟩), .int .i64 15, .int .i64 34, .string txt] W fun e w' => ∃ v', e = .returned v' ∧ CD w w' b b' bp g gO gM #[.int .i64 kd, .int .i64 nn, .int .i64 mt, .int .i64 ms, .int .i64 mns, .int .i64 mnr, .slice au n0 cu, .string txt] #[.int .i64 mt, .int .i64 ms, .int .i64 mns, .int .i64 mnr, .slice au n0 cu] (.slice au n0 cu) lv k p vm m (k.tell 15 34 txt) v v') := fun v W h => (h.c.rtell 15 34 (by decide) txt HTX.out rfl).mono fun e w' ⟨v', us, om, ob, he, h1, h2⟩ => ⟨v', he, ⟨us, om, ob, h1⟩, h.x.fr h2, h.s.updT h2 (by decide)⟩
          have HBX : Hid (∀ vs W, chU (fun W => CA w W b b' bp g gO gM #[.int .i64 kd, .int .i64 nn, .int .i64 mt, .int .i64 ms, .int .i64 mns, .int .i64 mnr, .slice au n0 cu, .string txt] #[.int .i64 mt, .int .i64 ms, .int .i64 mns, .int .i64 mnr, .slice au n0 cu] (.slice au n0 cu) lv k p vm m) (fun v W => CB w W b b' bp g gO gM #[.int .i64 kd, .int .i64 nn, .int .i64 mt, .int .i64 ms, .int .i64 mns, .int .i64 mnr, .slice au n0 cu, .string txt] #[.int .i64 mt, .int .i64 ms, .int .i64 mns, .int .i64 mnr, .slice au n0 cu] (.slice au n0 cu) lv k k p vm m (k.tell 15 34 txt) v) (fun v v' W => CD w W b b' bp g gO gM #[.int .i64 kd, .int .i64 nn, .int .i64 mt, .int .i64 ms, .int .i64 mns, .int .i64 mnr, .slice au n0 cu, .string txt] #[.int .i64 mt, .int .i64 ms, .int .i64 mns, .int .i64 mnr, .slice au n0 cu] (.slice au n0 cu) lv k p vm m (k.tell 15 34 txt) v v') vs W → Bxs W gO gM #[.int .i64 kd, .int .i64 nn, .int .i64 mt, .int .i64 ms, .int .i64 mns, .int .i64 mnr, .slice au n0 cu, .string txt] #[.int .i64 mt, .int .i64 ms, .int .i64 mns, .int .i64 mnr, .slice au n0 cu]) := fun vs W h => h.any (fun _ h => h.x) (fun _ _ h => h.x) (fun _ _ _ h => h.x)
          clear HP5 HB5 HSRC d0 d1 d6 d7
          go_wp2_with fail
          refine wp_region_chain [some (.pointer (some ⟨b, 0, none⟩)), some (.pointer (some ⟨gO, 7, none⟩)), some (.string txt), none, some (.pointer (some ⟨b', 0, none⟩)), some (.pointer (some ⟨gO, 7, none⟩)), some (.string txt), none, none, none] [3,7,8,9] (chU (fun W => CA w W b b' bp g gO gM #[.int .i64 kd, .int .i64 nn, .int .i64 mt, .int .i64 ms, .int .i64 mns, .int .i64 mnr, .slice au n0 cu, .string txt] #[.int .i64 mt, .int .i64 ms, .int .i64 mns, .int .i64 mnr, .slice au n0 cu] (.slice au n0 cu) lv k p vm m) (fun v W => CB w W b b' bp g gO gM #[.int .i64 kd, .int .i64 nn, .int .i64 mt, .int .i64 ms, .int .i64 mns, .int .i64 mnr, .slice au n0 cu, .string txt] #[.int .i64 mt, .int .i64 ms, .int .i64 mns, .int .i64 mnr, .slice au n0 cu] (.slice au n0 cu) lv k k p vm m (k.tell 15 34 txt) v) (fun v v' W => CD w W b b' bp g gO gM #[.int .i64 kd, .int .i64 nn, .int .i64 mt, .int .i64 ms, .int .i64 mns, .int .i64 mnr, .slice au n0 cu, .string txt] #[.int .i64 mt, .int .i64 ms, .int .i64 mns, .int .i64 mnr, .slice au n0 cu] (.slice au n0 cu) lv k p vm m (k.tell 15 34 txt) v v')) [(0, 0), (0, 0), (0, 0), (0, 0), (0, 1), (0, 1), (0, 1), (1, 1), (2, 2), (3, 3)] (by kernel_rfl) (by kernel_rfl) (by kernel_rfl) (by kernel_rfl) (by kernel_rfl) (by kernel_rfl) (HA0.out.keep (Upd.refl _ _).drew) ?_ ?_
          · refine StepsC.cons ?_ (StepsC.cons ?_ (StepsC.cons ?_ (StepsC.cons ?_ (StepsC.cons ?_ (StepsC.cons ?_ (StepsC.cons ?_ (StepsC.cons ?_ (StepsC.cons ?_ (StepsC.cons ?_ StepsC.nil)))))))))
            · refine chain_is _ (.inl rfl) ⟨_, rfl⟩ (by kernel_rfl) rfl ?_
              intro a W kst l0 h0 A0 hF hD
              have k0 : kst = 0 := Nat.le_antisymm h0 l0
              subst k0
              clear l0 h0
              have e9 : a.tmps[9]?.getD undef = _ := (ev a 9).symm.trans (hF 9 (by kernel_rfl))
              clear hF hD
              go_simp
            · refine chain_is _ (.inl rfl) ⟨_, rfl⟩ (by kernel_rfl) rfl ?_
              intro a W kst l0 h0 A0 hF hD
              have k0 : kst = 0 := Nat.le_antisymm h0 l0
              subst k0
              clear l0 h0
              have e18 : a.tmps[18]?.getD undef = _ := (ev a 18).symm.trans (hF 18 (by kernel_rfl))
              clear hF hD
              go_simp
            · refine chain_is _ (.inl rfl) ⟨_, rfl⟩ (by kernel_rfl) rfl ?_
              intro a W kst l0 h0 A0 hF hD
              have k0 : kst = 0 := Nat.le_antisymm h0 l0
              subst k0
              clear l0 h0
              have e143 : a.tmps[143]?.getD undef = .pointer (some ⟨gO, 7, none⟩) := (ev a 143).symm.trans (hD _ (Array.mem_of_getElem? (i := 0) rfl) rfl)
              clear hF hD
              have hbx := (HBX.out _ _ A0).o
              have d1 := hbx.cell 1
              have d7 := hbx.cell 7
              simp only [List.size_toArray, List.length_cons, List.length_nil, List.getElem?_toArray, List.getElem?_cons_zero, List.getElem?_cons_succ] at d1 d7
              go_simp
            · refine chain_call (.inl rfl) ⟨_, rfl⟩ (by kernel_rfl) ?_
              intro a W kst l0 h0 A0 hF hD
              have k0 : kst = 0 := Nat.le_antisymm h0 l0
              subst k0
              clear l0 h0
              have e142 : a.tmps[142]?.getD undef = .pointer (some ⟨b, 0, none⟩) := (ev a 142).symm.trans (hD _ (Array.mem_of_getElem? (i := 0) rfl) rfl)
              have e144 : a.tmps[144]?.getD undef = .string txt := (ev a 144).symm.trans (hD _ (Array.mem_of_getElem? (i := 1) rfl) rfl)
              clear hF hD
              refine ⟨_, _, by (go_simp; first | done | rfl | exact ⟨rfl, rfl⟩), ?_⟩
              refine (HT1.out _ A0).mono ?_
              rintro e w2 ⟨v, rfl, h⟩
              exact ⟨v, rfl, trivial, h⟩
            · refine chain_is _ (.inl rfl) ⟨_, rfl⟩ (by kernel_rfl) rfl ?_
              intro a W kst l0 h0 A0 hF hD
              have e11 : a.tmps[11]?.getD undef = _ := (ev a 11).symm.trans (hF 11 (by kernel_rfl))
              clear hF hD
              go_simp
            · refine chain_is _ (.inl rfl) ⟨_, rfl⟩ (by kernel_rfl) rfl ?_
              intro a W kst l0 h0 A0 hF hD
              have e18 : a.tmps[18]?.getD undef = _ := (ev a 18).symm.trans (hF 18 (by kernel_rfl))
              clear hF hD
              go_simp
            · refine chain_is _ (.inl rfl) ⟨_, rfl⟩ (by kernel_rfl) rfl ?_
              intro a W kst l0 h0 A0 hF hD
              have e147 : a.tmps[147]?.getD undef = .pointer (some ⟨gO, 7, none⟩) := (ev a 147).symm.trans (hD _ (Array.mem_of_getElem? (i := 0) rfl) rfl)
              clear hF hD
              have hbx := (HBX.out _ _ A0).o
              have d1 := hbx.cell 1
              have d7 := hbx.cell 7
              simp only [List.size_toArray, List.length_cons, List.length_nil, List.getElem?_toArray, List.getElem?_cons_zero, List.getElem?_cons_succ] at d1 d7
              go_simp
            · refine chain_call (.inl rfl) ⟨_, rfl⟩ (by kernel_rfl) ?_
              intro a W kst l0 h0 A0 hF hD
              have k0 : kst = 1 := Nat.le_antisymm h0 l0
              subst k0
              clear l0 h0
              have e146 : a.tmps[146]?.getD undef = .pointer (some ⟨b', 0, none⟩) := (ev a 146).symm.trans (hD _ (Array.mem_of_getElem? (i := 0) rfl) rfl)
              have e148 : a.tmps[148]?.getD undef = .string txt := (ev a 148).symm.trans (hD _ (Array.mem_of_getElem? (i := 1) rfl) rfl)
              clear hF hD
              refine ⟨_, _, by (go_simp; first | done | rfl | exact ⟨rfl, rfl⟩), ?_⟩
              refine (HT2.out _ _ A0).mono ?_
              rintro e w2 ⟨v, rfl, h⟩
              exact ⟨v, rfl, trivial, h⟩
            · refine chain_run (.inl rfl) ⟨_, rfl⟩ (by kernel_rfl) ?_
              intro a W kst l0 h0 A0 hF hD
              have k0 : kst = 2 := Nat.le_antisymm h0 l0
              subst k0
              clear l0 h0
              clear hF hD
              exact ⟨_, W, by (go_simp; first | done | rfl), trivial, A0, (ev a 145).symm⟩
            · refine chain_run (.inl rfl) ⟨_, rfl⟩ (by kernel_rfl) ?_
              intro a W kst l0 h0 A0 hF hD
              have k0 : kst = 3 := Nat.le_antisymm h0 l0
              subst k0
              clear l0 h0
              clear hF hD
              exact ⟨_, W, by (go_simp; first | done | rfl), trivial, A0.1, A0.2, (ev a 149).symm⟩
          intro vals W hv hA
          have v0 : vals 0 = .pointer (some ⟨b, 0, none⟩) := hv 0 (by decide)
          have v1 : vals 1 = .pointer (some ⟨gO, 7, none⟩) := hv 1 (by decide)
          have v2 : vals 2 = .string txt := hv 2 (by decide)
          have v4 : vals 4 = .pointer (some ⟨b', 0, none⟩) := hv 4 (by decide)
          have v5 : vals 5 = .pointer (some ⟨gO, 7, none⟩) := hv 5 (by decide)
          have v6 : vals 6 = .string txt := hv 6 (by decide)
          clear hv
          obtain ⟨hpe, h9, h10⟩ := hA
          have v8 : vals 8 = vals 3 := h9
          have v9 : vals 9 = vals 7 := h10
          simp only [putAll, Act.put, Nat.zero_add, Nat.reduceAdd, v8, v9, v0, v1, v2, v4, v5, v6, List.setIfInBounds_toArray, List.set_cons_zero, List.set_cons_succ]
          clear v0 v1 v2 v4 v5 v6
          clear h9 h10 v8 v9
          generalize vals 3 = va at *
          generalize vals 7 = vb at *
          have HPE := Lib.hid hpe
          clear HT1 HT2 HBX HA0 hpe
          go_wp2_with fail
          go_meet
          case rel =>
            obtain ⟨us, om, ob, hcd⟩ := HPE.out.c
            exact ⟨_, _, _, rfl, rfl, rfl, ⟨_, p, m, _, us, om, ob, mt, ms, mns, mnr, _, lv, hcd, HPE.out.x, HPE.out.s, HLS.out.1, Nat.le_trans HLS.out.2 (by decide), HKK.out.1, HKK.out.2.1, (HKK.out.1.tell 15 34 txt), HKK.out.2.2.mono (by omega), HLS.out.1⟩⟩
      have k5' : (kd == 5) = false := by simpa using k5
      by_cases k6 : kd = 6
      · have k6' : (kd == 6) = true := by simp [k6]
        clear k6
        as_aux_lemma =>
          have HA0 : Hid (CA w wc b b' bp g gO gM #[.int .i64 kd, .int .i64 nn, .int .i64 mt, .int .i64 ms, .int .i64 mns, .int .i64 mnr, .slice au n0 cu, .string txt] #[.int .i64 mt, .int .i64 ms, .int .i64 mns, .int .i64 mnr, .slice au n0 cu] (.slice au n0 cu) lv k p vm m) := ⟨HP5.out, HB5.out, HSRC.out⟩
          have HT1 : Hid (∀ W, CA w W b b' bp g gO gM #[.int .i64 kd, .int .i64 nn, .int .i64 mt, .int .i64 ms, .int .i64 mns, .int .i64 mnr, .slice au n0 cu, .string txt] #[.int .i64 mt, .int .i64 ms, .int .i64 mns, .int .i64 mnr, .slice au n0 cu] (.slice au n0 cu) lv k p vm m → Calls Tryz.prog 45 #[.pointer (some ⟨b, 0, none⟩), .string txt] W fun e w' => ∃ v, e = .returned v ∧ CB w w' b b' bp g gO gM #[.int .i64 kd, .int .i64 nn, .int .i64 mt, .int .i64 ms, .int .i64 mns, .int .i64 mnr, .slice au n0 cu, .string txt] #[.int .i64 mt, .int .i64 ms, .int .i64 mns, .int .i64 mnr, .slice au n0 cu] (.slice au n0 cu) lv k k p vm m (k.tell 16 35 txt) v) := fun W h => (h.c.map_ HKK.out.1 txt HTX.out).mono fun e w' ⟨v, he, h1, h2⟩ => ⟨v, he, h1, h.x.fr h2, h.s.updT h2 (by decide)⟩
          have HT2 : Hid (∀ v W, CB w W b b' bp g gO gM #[.int .i64 kd, .int .i64 nn, .int .i64 mt, .int .i64 ms, .int .i64 mns, .int .i64 mnr, .slice au n0 cu, .string txt] #[.int .i64 mt, .int .i64 ms, .int .i64 mns, .int .i64 mnr, .slice au n0 cu] (.slice au n0 cu) lv k k p vm m (k.tell 16 35 txt) v → Calls Tryz.prog 44 #[.pointer (some ⟨b', 0, none⟩), .int .i64 16, .int .i64 35, .string txt] W fun e w' => ∃ v', e = .returned v' ∧ CD w w' b b' bp g gO gM #[.int .i64 kd, .int .i64 nn, .int .i64 mt, .int .i64 ms, .int .i64 mns, .int .i64 mnr, .slice au n0 cu, .string txt] #[.int .i64 mt, .int .i64 ms, .int .i64 mns, .int .i64 mnr, .slice au n0 cu] (.slice au n0 cu) lv k p vm m (k.tell 16 35 txt) v v') := fun v W h => (h.c.rtell 16 35 (by decide) txt HTX.out rfl).mono fun e w' ⟨v', us, om, ob, he, h1, h2⟩ => ⟨v', he, ⟨us, om, ob, h1⟩, h.x.fr h2, h.s.updT h2 (by decide)⟩
          have HBX : Hid (∀ vs W, chU (fun W => CA w W b b' bp g gO gM #[.int .i64 kd, .int .i64 nn, .int .i64 mt, .int .i64 ms, .int .i64 mns, .int .i64 mnr, .slice au n0 cu, .string txt] #[.int .i64 mt, .int .i64 ms, .int .i64 mns, .int .i64 mnr, .slice au n0 cu] (.slice au n0 cu) lv k p vm m) (fun v W => CB w W b b' bp g gO gM #[.int .i64 kd, .int .i64 nn, .int .i64 mt, .int .i64 ms, .int .i64 mns, .int .i64 mnr, .slice au n0 cu, .string txt] #[.int .i64 mt, .int .i64 ms, .int .i64 mns, .int .i64 mnr, .slice au n0 cu] (.slice au n0 cu) lv k k p vm m (k.tell 16 35 txt) v) (fun v v' W => CD w W b b' bp g gO gM #[.int .i64 kd, .int .i64 nn, .int .i64 mt, .int .i64 ms, .int .i64 mns, .int .i64 mnr, .slice au n0 cu, .string txt] #[.int .i64 mt, .int .i64 ms, .int .i64 mns, .int .i64 mnr, .slice au n0 cu] (.slice au n0 cu) lv k p vm m (k.tell 16 35 txt) v v') vs W → Bxs W gO gM #[.int .i64 kd, .int .i64 nn, .int .i64 mt, .int .i64 ms, .int .i64 mns, .int .i64 mnr, .slice au n0 cu, .string txt] #[.int .i64 mt, .int .i64 ms, .int .i64 mns, .int .i64 mnr, .slice au n0 cu]) := fun vs W h => h.any (fun _ h => h.x) (fun _ _ h => h.x) (fun _ _ _ h => h.x)
          clear HP5 HB5 HSRC d0 d1 d6 d7
          go_wp2_with fail
          refine wp_region_chain [some (.pointer (some ⟨b, 0, none⟩)), some (.pointer (some ⟨gO, 7, none⟩)), some (.string txt), none, some (.pointer (some ⟨b', 0, none⟩)), some (.pointer (some ⟨gO, 7, none⟩)), some (.string txt), none, none, none] [3,7,8,9] (chU (fun W => CA w W b b' bp g gO gM #[.int .i64 kd, .int .i64 nn, .int .i64 mt, .int .i64 ms, .int .i64 mns, .int .i64 mnr, .slice au n0 cu, .string txt] #[.int .i64 mt, .int .i64 ms, .int .i64 mns, .int .i64 mnr, .slice au n0 cu] (.slice au n0 cu) lv k p vm m) (fun v W => CB w W b b' bp g gO gM #[.int .i64 kd, .int .i64 nn, .int .i64 mt, .int .i64 ms, .int .i64 mns, .int .i64 mnr, .slice au n0 cu, .string txt] #[.int .i64 mt, .int .i64 ms, .int .i64 mns, .int .i64 mnr, .slice au n0 cu] (.slice au n0 cu) lv k k p vm m (k.tell 16 35 txt) v) (fun v v' W => CD w W b b' bp g gO gM #[.int .i64 kd, .int .i64 nn, .int .i64 mt, .int .i64 ms, .int .i64 mns, .int .i64 mnr, .slice au n0 cu, .string txt] #[.int .i64 mt, .int .i64 ms, .int .i64 mns, .int .i64 mnr, .slice au n0 cu] (.slice au n0 cu) lv k p vm m (k.tell 16 35 txt) v v')) [(0, 0), (0, 0), (0, 0), (0, 0), (0, 1), (0, 1), (0, 1), (1, 1), (2, 2), (3, 3)] (by kernel_rfl) (by kernel_rfl) (by kernel_rfl) (by kernel_rfl) (by kernel_rfl) (by kernel_rfl) (HA0.out.keep (Upd.refl _ _).drew) ?_ ?_
          · refine StepsC.cons ?_ (StepsC.cons ?_ (StepsC.cons ?_ (StepsC.cons ?_ (StepsC.cons ?_ (StepsC.cons ?_ (StepsC.cons ?_ (StepsC.cons ?_ (StepsC.cons ?_ (StepsC.cons ?_ StepsC.nil)))))))))
            · refine chain_is _ (.inl rfl) ⟨_, rfl⟩ (by kernel_rfl) rfl ?_
              intro a W kst l0 h0 A0 hF hD
              have k0 : kst = 0 := Nat.le_antisymm h0 l0
              subst k0
              clear l0 h0
              have e9 : a.tmps[9]?.getD undef = _ := (ev a 9).symm.trans (hF 9 (by kernel_rfl))
              clear hF hD
              go_simp
            · refine chain_is _ (.inl rfl) ⟨_, rfl⟩ (by kernel_rfl) rfl ?_
              intro a W kst l0 h0 A0 hF hD
              have k0 : kst = 0 := Nat.le_antisymm h0 l0
              subst k0
              clear l0 h0
              have e18 : a.tmps[18]?.getD undef = _ := (ev a 18).symm.trans (hF 18 (by kernel_rfl))
              clear hF hD
              go_simp
            · refine chain_is _ (.inl rfl) ⟨_, rfl⟩ (by kernel_rfl) rfl ?_
              intro a W kst l0 h0 A0 hF hD
              have k0 : kst = 0 := Nat.le_antisymm h0 l0
              subst k0
              clear l0 h0
              have e153 : a.tmps[153]?.getD undef = .pointer (some ⟨gO, 7, none⟩) := (ev a 153).symm.trans (hD _ (Array.mem_of_getElem? (i := 0) rfl) rfl)
              clear hF hD
              have hbx := (HBX.out _ _ A0).o
              have d1 := hbx.cell 1
              have d7 := hbx.cell 7
              simp only [List.size_toArray, List.length_cons, List.length_nil, List.getElem?_toArray, List.getElem?_cons_zero, List.getElem?_cons_succ] at d1 d7
              go_simp
            · refine chain_call (.inl rfl) ⟨_, rfl⟩ (by kernel_rfl) ?_
              intro a W kst l0 h0 A0 hF hD
              have k0 : kst = 0 := Nat.le_antisymm h0 l0
              subst k0
              clear l0 h0
              have e152 : a.tmps[152]?.getD undef = .pointer (some ⟨b, 0, none⟩) := (ev a 152).symm.trans (hD _ (Array.mem_of_getElem? (i := 0) rfl) rfl)
              have e154 : a.tmps[154]?.getD undef = .string txt := (ev a 154).symm.trans (hD _ (Array.mem_of_getElem? (i := 1) rfl) rfl)
              clear hF hD
              refine ⟨_, _, by (go_simp; first | done | rfl | exact ⟨rfl, rfl⟩), ?_⟩
              refine (HT1.out _ A0).mono ?_
              rintro e w2 ⟨v, rfl, h⟩
              exact ⟨v, rfl, trivial, h⟩
            · refine chain_is _ (.inl rfl) ⟨_, rfl⟩ (by kernel_rfl) rfl ?_
              intro a W kst l0 h0 A0 hF hD
              have e11 : a.tmps[11]?.getD undef = _ := (ev a 11).symm.trans (hF 11 (by kernel_rfl))
              clear hF hD
              go_simp
            · refine chain_is _ (.inl rfl) ⟨_, rfl⟩ (by kernel_rfl) rfl ?_
              intro a W kst l0 h0 A0 hF hD
              have e18 : a.tmps[18]?.getD undef = _ := (ev a 18).symm.trans (hF 18 (by kernel_rfl))
              clear hF hD
              go_simp
            · refine chain_is _ (.inl rfl) ⟨_, rfl⟩ (by kernel_rfl) rfl ?_
              intro a W kst l0 h0 A0 hF hD
              have e157 : a.tmps[157]?.getD undef = .pointer (some ⟨gO, 7, none⟩) := (ev a 157).symm.trans (hD _ (Array.mem_of_getElem? (i := 0) rfl) rfl)
              clear hF hD
              have hbx := (HBX.out _ _ A0).o
              have d1 := hbx.cell 1
              have d7 := hbx.cell 7
              simp only [List.size_toArray, List.length_cons, List.length_nil, List.getElem?_toArray, List.getElem?_cons_zero, List.getElem?_cons_succ] at d1 d7
              go_simp
            · refine chain_call (.inl rfl) ⟨_, rfl⟩ (by kernel_rfl) ?_
              intro a W kst l0 h0 A0 hF hD
              have k0 : kst = 1 := Nat.le_antisymm h0 l0
              subst k0
              clear l0 h0
              have e156 : a.tmps[156]?.getD undef = .pointer (some ⟨b', 0, none⟩) := (ev a 156).symm.trans (hD _ (Array.mem_of_getElem? (i := 0) rfl) rfl)
              have e158 : a.tmps[158]?.getD undef = .string txt := (ev a 158).symm.trans (hD _ (Array.mem_of_getElem? (i := 1) rfl) rfl)
              clear hF hD
              refine ⟨_, _, by (go_simp; first | done | rfl | exact ⟨rfl, rfl⟩), ?_⟩
              refine (HT2.out _ _ A0).mono ?_
              rintro e w2 ⟨v, rfl, h⟩
              exact ⟨v, rfl, trivial, h⟩
            · refine chain_run (.inl rfl) ⟨_, rfl⟩ (by kernel_rfl) ?_
              intro a W kst l0 h0 A0 hF hD
              have k0 : kst = 2 := Nat.le_antisymm h0 l0
              subst k0
              clear l0 h0
              clear hF hD
              exact ⟨_, W, by (go_simp; first | done | rfl), trivial, A0, (ev a 155).symm⟩
            · refine chain_run (.inl rfl) ⟨_, rfl⟩ (by kernel_rfl) ?_
              intro a W kst l0 h0 A0 hF hD
              have k0 : kst = 3 := Nat.le_antisymm h0 l0
              subst k0
              clear l0 h0
              clear hF hD
              exact ⟨_, W, by (go_simp; first | done | rfl), trivial, A0.1, A0.2, (ev a 159).symm⟩
          intro vals W hv hA
          have v0 : vals 0 = .pointer (some ⟨b, 0, none⟩) := hv 0 (by decide)
          have v1 : vals 1 = .pointer (some ⟨gO, 7, none⟩) := hv 1 (by decide)
          have v2 : vals 2 = .string txt := hv 2 (by decide)
          have v4 : vals 4 = .pointer (some ⟨b', 0, none⟩) := hv 4 (by decide)
          have v5 : vals 5 = .pointer (some ⟨gO, 7, none⟩) := hv 5 (by decide)
          have v6 : vals 6 = .string txt := hv 6 (by decide)
          clear hv
          obtain ⟨hpe, h9, h10⟩ := hA
          have v8 : vals 8 = vals 3 := h9
          have v9 : vals 9 = vals 7 := h10
          simp only [putAll, Act.put, Nat.zero_add, Nat.reduceAdd, v8, v9, v0, v1, v2, v4, v5, v6, List.setIfInBounds_toArray, List.set_cons_zero, List.set_cons_succ]
          clear v0 v1 v2 v4 v5 v6
          clear h9 h10 v8 v9
          generalize vals 3 = va at *
          generalize vals 7 = vb at *
          have HPE := Lib.hid hpe
          clear HT1 HT2 HBX HA0 hpe
          go_wp2_with fail
          go_meet
          case rel =>
            obtain ⟨us, om, ob, hcd⟩ := HPE.out.c
            exact ⟨_, _, _, rfl, rfl, rfl, ⟨_, p, m, _, us, om, ob, mt, ms, mns, mnr, _, lv, hcd, HPE.out.x, HPE.out.s, HLS.out.1, Nat.le_trans HLS.out.2 (by decide), HKK.out.1, HKK.out.2.1, (HKK.out.1.tell 16 35 txt), HKK.out.2.2.mono (by omega), HLS.out.1⟩⟩
      have k6' : (kd == 6) = false := by simpa using k6
      by_cases k7 : kd = 7
      · have k7' : (kd == 7) = true := by simp [k7]
        clear k7
        as_aux_lemma =>
          have HS0 := HSRC
          go_upto_if 165 with (fail)
          go_cut [15] from 69 to 299 (fun s15 V => ∃ (p2 : K) (m2 : List Sy) (vm2 : Value), vm2 = s15 ∧ Cp w V b b' bp g k k p2 vm2 m2 ∧ Bxs V gO gM #[.int .i64 kd, .int .i64 nn, .int .i64 mt, .int .i64 ms, .int .i64 mns, .int .i64 mnr, .slice au n0 cu, .string txt] #[.int .i64 mt, .int .i64 ms, .int .i64 mns, .int .i64 mnr, .slice au n0 cu] ∧ KOk (2 * (m1 + 1)) p2 ∧ SaysOk (5 * (100 - (m1 + 1)) + 1) m2)
          case first =>
            as_aux_lemma =>
            by_cases tb : bits BinOp.and IntKind.i64 nn 7 = 0
            · go_wp2_with fail
              refine (HP5.out.popen HKK.out.2.1).mono ?_
              rintro e w6 ⟨v6, oq, rfl, h6, hq6, f6⟩
              have H6 := Lib.hid (And.intro h6 hq6)
              have HB6 := Lib.hid (HB5.out.fr f6)
              have HLQ : Hid (m.length + p.openC.2.length ≤ 100000) := by
                have h1 := HKK.out.2.2.le
                have h2 := HKK.out.2.1.openC.2.le
                show _ ≤ _
                omega
              clear h6 hq6 f6 HP5 HB5
              go_wp2_with (at_builtin; refine wpList_mail rfl (.tmp 166) (.tmp 168) rfl H6.out.1 H6.out.2 HLQ.out (by simp [Act.eval]) (by simp [Act.eval]) ?_; intro ao7 cap7 w7 h7 f7; obtain ⟨n7, hn7⟩ : ∃ n, n = m.length + p.openC.2.length := ⟨_, rfl⟩; rw [← hn7] at h7; rw [← hn7]; have H7 := Lib.hid h7; have HB7 := Lib.hid (HB6.out.fr f7); clear h7 f7 hn7)
              go_meet
              case rel => exact ⟨p.openC.1, m ++ p.openC.2, _, rfl, H7.out, HB7.out, HKK.out.2.1.openC.1, HKK.out.2.2.app HKK.out.2.1.openC.2⟩
            · have tb2 : (bits BinOp.and IntKind.i64 nn 7 == 0) = false := by simpa using tb
              go_wp2_with fail
              go_meet
              case rel => exact ⟨p, m, vm, rfl, HP5.out, HB5.out, HKK.out.2.1, HKK.out.2.2.mono (by omega)⟩
          case rest =>
          obtain ⟨p2, m2, vm2, rfl, hp2, hbx2, hk2, hsm2⟩ := hcut
          have HP6 := Lib.hid hp2
          have HB6 := Lib.hid hbx2
          have HK6 := Lib.hid (And.intro hk2 hsm2)
          clear hp2 hbx2 hk2 hsm2 HP5 HB5 HSRC HS0 d0 d1 d6 d7
          match m2, HP6, HK6 with
          | [], HP6, HK6 =>
            as_aux_lemma =>
            obtain ⟨om, hm, -⟩ := HP6.out.m
            obtain ⟨am, cm, rfl, -, -⟩ := hm.shape
            clear hm
            simp only [List.length_nil]
            go_wp2_with fail
            go_roundg (L - (j + 1))
            case rel => exact ⟨j + 1, k, p2, [], _, by omega, rfl, by go_num, HP6.out, HKK.out.1.mono (by have := HM1.out; omega), HK6.out.1.mono (by have := HM1.out; omega), .nil _⟩
            case measure => omega
          | sy :: mt2, HP6, HK6 =>
            as_aux_lemma =>
            obtain ⟨gm, ofm, cm, um, rfl, hcm1, hcm2, hcs, hcu, hsrcm, hbm, au2, nu2, cu2, rfl⟩ := HP6.out.first
            have HSM := Lib.hid hsrcm
            have HBM := Lib.hid hbm
            obtain ⟨N2, hN2⟩ : ∃ n, n = mt2.length + 1 := ⟨_, rfl⟩
            rw [← hN2] at hcm1
            have HN2 := Lib.hid hN2
            have HP7 := Lib.hid HP6.out
            simp only [maxLen] at hcm2
            rw [← hN2]
            have hN21 : 1 ≤ N2 := by omega
            have hbo := HB6.out.m
            have q0 := hbo.cell 0
            have q1 := hbo.cell 1
            have q2 := hbo.cell 2
            have q3 := hbo.cell 3
            have q4 := hbo.cell 4
            have fz := hbo.frozen
            have hlm := hbo.lt
            simp only [List.size_toArray, List.length_cons, List.length_nil, List.getElem?_toArray, List.getElem?_cons_zero, List.getElem?_cons_succ] at q0 q1 q2 q3 q4
            clear hbo hsrcm hbm hN2
            go_upto_region 44 with (fail)
            obtain ⟨wq, hwq⟩ : ∃ x, x = wc := ⟨_, rfl⟩
            subst hwq
            go_cut [] from 69 to 299 (fun V => Upd [gM] wq V ∧ Blk V gM 24 #[.int .i64 0, .int .i64 sy.1, .int .i64 0, .int .i64 0, .slice au2 nu2 cu2])
            case first =>
              as_aux_lemma =>
              go_wp2_with fail
              go_region
              go_wp2_with fail
              go_meet
              case rel =>
                refine ⟨?_, ?_⟩
                · repeat (first | exact Upd.refl _ _ | refine Upd.setCell _ ?_ (.inl (by simp)) | apply Upd.drew | apply Upd.drewN)
                · apply Blk.of_eq
                  · repeat (with_reducible first | exact HB6.out.m | apply Blk.drewN | apply Blk.drew | apply Blk.set_)
                  · rfl
            case rest =>
            obtain ⟨hu8, hb8⟩ := hcut
            have HT8 : Hid (UpdT [24] w.heap.size wq wc) := UpdT.of_upd hu8 fun x hx _ => by
              simp at hx; subst hx
              exact ⟨HGM.out, _, _, HB6.out.m, by simp⟩
            have HP8 := Lib.hid (HP7.out.updT HT8.out (by decide) (by decide) (by decide) (by decide) (by decide) (by decide) (by decide) (by decide))
            have HB8 : Hid (Bxs wc gO gM #[.int .i64 kd, .int .i64 nn, .int .i64 mt, .int .i64 ms, .int .i64 mns, .int .i64 mnr, .slice au n0 cu, .string txt] #[.int .i64 0, .int .i64 sy.1, .int .i64 0, .int .i64 0, .slice au2 nu2 cu2]) := ⟨HB6.out.o.updT HT8.out (by decide), hb8⟩
            have HS8 := Lib.hid (HSM.out.updT HT8.out (by decide))
            clear hu8 hb8 HT8 HP6 HP7 HB6 HSM q0 q1 q2 q3 q4 fz hlm hcs hcu HBM
            rw [← HN2.out] at HP8
            have HP8 : Hid (Cp w wc b b' bp g k k p2 (sliced (some ⟨gm, ofm, none⟩) 1 N2 cm 2) mt2) := by
              have h := HP8.out
              rw [HN2.out] at h
              rw [HN2.out]
              exact h.tail
            by_cases hc1 : cm = 1
            · have hn1 : N2 = 1 := by omega
              subst hc1
              have HP9 : Hid (Cp w wc b b' bp g k k p2 (.slice (some ⟨gm, ofm, none⟩) 0 0) mt2) := by
                have h := HP8.out
                rw [hn1] at h
                show Cp _ _ _ _ _ _ _ _ _ _ _
                simpa [sliced] using h
              subst hn1
              clear HP8
              go_wp2_with fail
              go_meet
              case rel =>
                obtain ⟨om, hn⟩ := HP9.out.none_
                have hsy := HK6.out.2.all sy (by simp)
                exact ⟨_, _, _, rfl, rfl, rfl, ⟨k, p2, mt2, [], [], om, [], 0, sy.1, 0, 0, _, sy.2, hn, HB8.out, HS8.out, hsy.sz, hsy.n, HKK.out.1, HK6.out.1, .nil _, HK6.out.2.tail.mono (by omega), hsy.sz⟩⟩
            · have HP9 : Hid (Cp w wc b b' bp g k k p2 (.slice (some ⟨gm, ofm + 2, none⟩) (N2 - 1) (cm - 1)) mt2) := by
                have h := HP8.out
                show Cp _ _ _ _ _ _ _ _ _ _ _
                simpa [sliced, hc1, add_plain'] using h
              clear HP8
              go_wp2_with fail
              go_meet
              case rel =>
                obtain ⟨om, hn⟩ := HP9.out.none_
                have hsy := HK6.out.2.all sy (by simp)
                exact ⟨_, _, _, rfl, rfl, rfl, ⟨k, p2, mt2, [], [], om, [], 0, sy.1, 0, 0, _, sy.2, hn, HB8.out, HS8.out, hsy.sz, hsy.n, HKK.out.1, HK6.out.1, .nil _, HK6.out.2.tail.mono (by omega), hsy.sz⟩⟩
      have k7' : (kd == 7) = false := by simpa using k7
      clear k1 k3 k4 k5 k6 k7
      as_aux_lemma =>
        go_wp2_with fail
        go_meet
        case rel =>
          obtain ⟨om, hn⟩ := HP5.out.none_
          exact ⟨_, _, _, rfl, rfl, rfl, ⟨k, p, m, [], [], om, [], mt, ms, mns, mnr, _, lv, hn, HB5.out, HSRC.out, HLS.out.1, Nat.le_trans HLS.out.2 (by decide), HKK.out.1, HKK.out.2.1, .nil _, HKK.out.2.2.mono (by omega), HLS.out.1⟩⟩
    case rest =>
    as_aux_lemma =>
      obtain ⟨vm, va, vb, rfl, rfl, rfl, hsw⟩ := hcut
      obtain ⟨k1, p1, mm1, l1, us1, om1, ob1, xt, xs, xns, xnr, xu, lm, hc1, hx1, hs1, hlm1, hlm2, hk1, hp1, hl1, hm1, -⟩ := hsw.ex
      obtain ⟨ax, cx, rfl, -⟩ := id hs1.avs
      obtain ⟨nx, hnx⟩ : ∃ n, n = lm.length := ⟨_, rfl⟩
      rw [← hnx] at hx1 hs1
      have HC1 := Lib.hid hc1
      have HX1 := Lib.hid hx1
      have HS1 := Lib.hid hs1
      have HLM := Lib.hid (And.intro hlm1 hlm2)
      have HKP := Lib.hid (And.intro hk1 (And.intro hp1 (And.intro hl1 hm1)))
      clear hsw hc1 hx1 hs1 hlm1 hlm2 hk1 hp1 hl1 hm1 hnx HP5 HB5 HSRC HKK d0 d1 d6 d7 HTX HLS HCO HSR HN0 hn50 hcu1 hcu2
      have hbo := HX1.out.o
      have d0 := hbo.cell 0
      simp only [List.size_toArray, List.length_cons, List.length_nil, List.getElem?_toArray, List.getElem?_cons_zero, List.getElem?_cons_succ] at d0
      clear hbo
      go_upto_region 46 with (fail)
      obtain ⟨w46, hw46⟩ : ∃ x, x = wc := ⟨_, rfl⟩
      subst hw46
      go_cut [191] from 69 to 299 (fun s191 V => ∃ tb : Bool, .bool tb = s191 ∧ w46 = V)
      case first =>
        as_aux_lemma =>
        by_cases k2 : kd = 2
        · have k2' : (kd == 2) = true := by simp [k2]
          clear k2
          go_wp2_with fail
          go_meet
          case rel => exact ⟨_, rfl, rfl⟩
        have k2' : (kd == 2) = false := by simpa using k2
        clear k2
        go_wp2_with fail
        go_meet
        case rel => exact ⟨_, rfl, rfl⟩
      case rest =>
      obtain ⟨tb, rfl, rfl⟩ := hcut
      go_upto_if 191 with (fail)
      go_cut [19, 20] from 69 to 299 (fun s19 s20 V => ∃ va vb : Value, va = s19 ∧ vb = s20 ∧ TkEnd w V b b' bp g m1 vm va vb)
      case first =>
        cases tb
        · go_wp2_with fail
          go_meet
          case rel => exact ⟨_, _, rfl, rfl, ⟨k1, p1, mm1, l1, us1, om1, ob1, HC1.out, HKP.out.1.mono (by omega), HKP.out.2.1, HKP.out.2.2.1.mono (by omega), HKP.out.2.2.2⟩⟩
        ·
          as_aux_lemma =>
            have hbm := HX1.out.m
            have q0 := hbm.cell 0
            have q1 := hbm.cell 1
            have q2 := hbm.cell 2
            have q3 := hbm.cell 3
            have q4 := hbm.cell 4
            simp only [List.size_toArray, List.length_cons, List.length_nil, List.getElem?_toArray, List.getElem?_cons_zero, List.getElem?_cons_succ] at q0 q1 q2 q3 q4
            clear hbm
            go_upto_region 47 with (fail)
            go_cut [24] from 69 to 299 (fun s24 V => ∃ gX, s24 = .pointer (some ⟨gX, 0, none⟩) ∧ Upd [] w46 V ∧ Blk V gX 24 #[.int .i64 xt, .int .i64 xs, .int .i64 xns, .int .i64 xnr, .slice ax nx cx] ∧ w46.heap.size ≤ gX)
            case first =>
              as_aux_lemma =>
              clear HC1 HX1 HS1 HLM HKP
              go_wp2_with fail
              go_meet
              case rel =>
                refine ⟨_, rfl, ?_, ?_, ?_⟩
                · repeat (first | exact Upd.refl _ _ | refine Upd.setCell _ ?_ (.inr (by simp)) | refine Upd.alloc _ ?_)
                · apply Blk.of_eq
                  · repeat (with_reducible first | apply Blk.new | apply Blk.drewN | apply Blk.drew | apply Blk.set_)
                  · rfl
                · first | exact Nat.le_refl _ | simp
            case rest =>
            obtain ⟨gX, rfl, hu8, hb8, hgX⟩ := hcut
            have HGX : Hid (w.heap.size ≤ gX ∧ gM ≠ gX) := ⟨Nat.le_trans HC1.out.ups.size hgX, Nat.ne_of_lt (Nat.lt_of_lt_of_le HX1.out.m.lt hgX)⟩
            have HC2 := Lib.hid (HC1.out.cp.keep hu8)
            have HX2 := Lib.hid (HX1.out.upd hu8)
            have HS2 := Lib.hid (HS1.out.upd hu8)
            have HBX2 := Lib.hid hb8
            clear hu8 hb8 hgX q0 q1 q2 q3 q4 HC1 HX1 HS1 d0
            have hbm := HX2.out.m
            have q4 := hbm.cell 4
            simp only [List.size_toArray, List.length_cons, List.length_nil, List.getElem?_toArray, List.getElem?_cons_zero, List.getElem?_cons_succ] at q4
            have y4 := hb8_cell HBX2.out
            have z4 := HBX2.out.frozen 4
            have hltX := HBX2.out.lt
            have HRD : Hid (Rd wc 5 (.slice ax nx cx) lm.length (lm.flatMap bkCAvps)) := by
              have h := HS2.out.avs.rd
              rw [avCells_bk] at h
              exact h
            clear hbm
            go_wp2_with fail
            refine (bkLentAvps lm _ _ HRD.out (by have := HLM.out.2; omega)).mono ?_
            rintro e w6 ⟨vx, ox, rfl, hlx, hfx, hu6⟩
            obtain ⟨gx, ofx, cxx, rfl, -⟩ := id hlx
            obtain ⟨nv, hnv⟩ : ∃ n, n = lm.length := ⟨_, rfl⟩
            rw [← hnv] at hlx
            rw [← hnv]
            have HNV := Lib.hid hnv
            have HC3 := Lib.hid (HC2.out.keep hu6)
            have HX3 := Lib.hid (HX2.out.upd hu6)
            have HS3 := Lib.hid (HS2.out.upd hu6)
            have HBX3 := Lib.hid (HBX2.out.upd hu6 (by simp))
            have HLX3 := Lib.hid hlx
            have y4 := hb8_cell HBX3.out
            have z4 := HBX3.out.frozen 4
            have hltX := HBX3.out.lt
            clear hlx hfx hu6 hnv HC2 HX2 HS2 HBX2 HRD q4
            go_wp2_with fail
            generalize hw7 : w6.setCell ⟨gX, 4, none⟩ (.slice (some ⟨gx, ofx, none⟩) nv cxx) = w7 at *
            have HT7 : Hid (UpdT [24] w.heap.size w6 w7) := by
              subst hw7
              exact UpdT.of_upd (F := [gX]) ((Upd.refl _ _).setCell _ (.inl (by simp))) fun x hx _ => by
                simp at hx; subst hx
                exact ⟨HGX.out.1, _, _, HBX3.out, by simp⟩
            have HBX4 : Hid (Blk w7 gX 24 #[.int .i64 xt, .int .i64 xs, .int .i64 xns, .int .i64 xnr, .slice (some ⟨gx, ofx, none⟩) nv cxx]) := by
              subst hw7
              exact Blk.of_eq (HBX3.out.set_ 4 _) rfl
            have HA4 : Hid (TA w w7 b b' bp g gM gX #[.int .i64 xt, .int .i64 xs, .int .i64 xns, .int .i64 xnr, .slice ax nx cx] #[.int .i64 xt, .int .i64 xs, .int .i64 xns, .int .i64 xnr, .slice (some ⟨gx, ofx, none⟩) nv cxx] (.slice ax nx cx) lm (.slice (some ⟨gx, ofx, none⟩) nv cxx) ox k1 p1 vm mm1) := by
              refine ⟨HC3.out.updT HT7.out (by decide) (by decide) (by decide) (by decide) (by decide) (by decide) (by decide) (by decide), ?_, HBX4.out, HS3.out.updT HT7.out (by decide), HLX3.out.updT HT7.out (by decide)⟩
              subst hw7
              exact HX3.out.m.upd (F := [gX]) ((Upd.refl _ _).setCell _ (.inl (by simp))) (by simpa using HGX.out.2)
            clear hw7 HT7 HBX4 HBX3 HC3 HX3 HS3 HLX3 y4 z4 hltX
            have HT1 : Hid (∀ W, TA w W b b' bp g gM gX #[.int .i64 xt, .int .i64 xs, .int .i64 xns, .int .i64 xnr, .slice ax nx cx] #[.int .i64 xt, .int .i64 xs, .int .i64 xns, .int .i64 xnr, .slice (some ⟨gx, ofx, none⟩) nv cxx] (.slice ax nx cx) lm (.slice (some ⟨gx, ofx, none⟩) nv cxx) ox k1 p1 vm mm1 → Calls Tryz.prog 46 #[.pointer (some ⟨b, 0, none⟩), .agg #[.int .i64 xt, .int .i64 xs, .int .i64 xns, .int .i64 xnr, .slice (some ⟨gx, ofx, none⟩) nv cxx]] W fun e w' => ∃ v, e = .returned v ∧ TB w w' b b' bp g gM gX #[.int .i64 xt, .int .i64 xs, .int .i64 xns, .int .i64 xnr, .slice ax nx cx] #[.int .i64 xt, .int .i64 xs, .int .i64 xns, .int .i64 xnr, .slice (some ⟨gx, ofx, none⟩) nv cxx] (.slice ax nx cx) lm (.slice (some ⟨gx, ofx, none⟩) nv cxx) ox (k1.take lm).1 k1 p1 vm mm1 (k1.take lm).2 v) := fun W h =>
              (h.c.take_ HKP.out.1 xt xs xns xnr lm _ (by have h2 := h.l.own bkCAvps_len; rw [← avCells_bk] at h2; exact h2) HLM.out.1 HLM.out.2).mono fun e w' ⟨v, he, h1, h2⟩ => ⟨v, he, h1, h.bm.updT h2 (by decide), h.bx.updT h2 (by decide), h.s.updT h2 (by decide), h.l.updT h2 (by decide)⟩
            have HT2 : Hid (∀ v W, TB w W b b' bp g gM gX #[.int .i64 xt, .int .i64 xs, .int .i64 xns, .int .i64 xnr, .slice ax nx cx] #[.int .i64 xt, .int .i64 xs, .int .i64 xns, .int .i64 xnr, .slice (some ⟨gx, ofx, none⟩) nv cxx] (.slice ax nx cx) lm (.slice (some ⟨gx, ofx, none⟩) nv cxx) ox (k1.take lm).1 k1 p1 vm mm1 (k1.take lm).2 v → Calls Tryz.prog 47 #[.pointer (some ⟨b', 0, none⟩), .agg #[.int .i64 xt, .int .i64 xs, .int .i64 xns, .int .i64 xnr, .slice ax nx cx]] W fun e w' => ∃ v', e = .returned v' ∧ TD w w' b b' bp g gM gX #[.int .i64 xt, .int .i64 xs, .int .i64 xns, .int .i64 xnr, .slice ax nx cx] #[.int .i64 xt, .int .i64 xs, .int .i64 xns, .int .i64 xnr, .slice (some ⟨gx, ofx, none⟩) nv cxx] (.slice ax nx cx) lm (.slice (some ⟨gx, ofx, none⟩) nv cxx) ox (k1.take lm).1 p1 vm mm1 (k1.take lm).2 v v') := fun v W h =>
              (h.c.rtake HKP.out.1 xt xs xns xnr lm _ h.s HLM.out.1 HLM.out.2 rfl).mono fun e w' ⟨v', us, om, ob, he, h1, h2⟩ => ⟨v', he, ⟨us, om, ob, h1⟩, h.bm.updT h2 (by decide), h.bx.updT h2 (by decide), h.s.updT h2 (by decide), h.l.updT h2 (by decide)⟩
            have HBX : Hid (∀ vs W, chU (fun W => TA w W b b' bp g gM gX #[.int .i64 xt, .int .i64 xs, .int .i64 xns, .int .i64 xnr, .slice ax nx cx] #[.int .i64 xt, .int .i64 xs, .int .i64 xns, .int .i64 xnr, .slice (some ⟨gx, ofx, none⟩) nv cxx] (.slice ax nx cx) lm (.slice (some ⟨gx, ofx, none⟩) nv cxx) ox k1 p1 vm mm1) (fun v W => TB w W b b' bp g gM gX #[.int .i64 xt, .int .i64 xs, .int .i64 xns, .int .i64 xnr, .slice ax nx cx] #[.int .i64 xt, .int .i64 xs, .int .i64 xns, .int .i64 xnr, .slice (some ⟨gx, ofx, none⟩) nv cxx] (.slice ax nx cx) lm (.slice (some ⟨gx, ofx, none⟩) nv cxx) ox (k1.take lm).1 k1 p1 vm mm1 (k1.take lm).2 v) (fun v v' W => TD w W b b' bp g gM gX #[.int .i64 xt, .int .i64 xs, .int .i64 xns, .int .i64 xnr, .slice ax nx cx] #[.int .i64 xt, .int .i64 xs, .int .i64 xns, .int .i64 xnr, .slice (some ⟨gx, ofx, none⟩) nv cxx] (.slice ax nx cx) lm (.slice (some ⟨gx, ofx, none⟩) nv cxx) ox (k1.take lm).1 p1 vm mm1 (k1.take lm).2 v v') vs W → Blk W gM 24 #[.int .i64 xt, .int .i64 xs, .int .i64 xns, .int .i64 xnr, .slice ax nx cx] ∧ Blk W gX 24 #[.int .i64 xt, .int .i64 xs, .int .i64 xns, .int .i64 xnr, .slice (some ⟨gx, ofx, none⟩) nv cxx]) := fun vs W h => chU.any (Q := fun W => Blk W gM 24 #[.int .i64 xt, .int .i64 xs, .int .i64 xns, .int .i64 xnr, .slice ax nx cx] ∧ Blk W gX 24 #[.int .i64 xt, .int .i64 xs, .int .i64 xns, .int .i64 xnr, .slice (some ⟨gx, ofx, none⟩) nv cxx]) h (fun _ h => ⟨h.bm, h.bx⟩) (fun _ _ h => ⟨h.bm, h.bx⟩) (fun _ _ _ h => ⟨h.bm, h.bx⟩)
            refine wp_region_chain [some (.pointer (some ⟨b, 0, none⟩)), some (.agg #[.int .i64 xt, .int .i64 xs, .int .i64 xns, .int .i64 xnr, .slice (some ⟨gx, ofx, none⟩) nv cxx]), none, some (.pointer (some ⟨b', 0, none⟩)), some (.agg #[.int .i64 xt, .int .i64 xs, .int .i64 xns, .int .i64 xnr, .slice ax nx cx]), none, none, none] [2,5,6,7] (chU (fun W => TA w W b b' bp g gM gX #[.int .i64 xt, .int .i64 xs, .int .i64 xns, .int .i64 xnr, .slice ax nx cx] #[.int .i64 xt, .int .i64 xs, .int .i64 xns, .int .i64 xnr, .slice (some ⟨gx, ofx, none⟩) nv cxx] (.slice ax nx cx) lm (.slice (some ⟨gx, ofx, none⟩) nv cxx) ox k1 p1 vm mm1) (fun v W => TB w W b b' bp g gM gX #[.int .i64 xt, .int .i64 xs, .int .i64 xns, .int .i64 xnr, .slice ax nx cx] #[.int .i64 xt, .int .i64 xs, .int .i64 xns, .int .i64 xnr, .slice (some ⟨gx, ofx, none⟩) nv cxx] (.slice ax nx cx) lm (.slice (some ⟨gx, ofx, none⟩) nv cxx) ox (k1.take lm).1 k1 p1 vm mm1 (k1.take lm).2 v) (fun v v' W => TD w W b b' bp g gM gX #[.int .i64 xt, .int .i64 xs, .int .i64 xns, .int .i64 xnr, .slice ax nx cx] #[.int .i64 xt, .int .i64 xs, .int .i64 xns, .int .i64 xnr, .slice (some ⟨gx, ofx, none⟩) nv cxx] (.slice ax nx cx) lm (.slice (some ⟨gx, ofx, none⟩) nv cxx) ox (k1.take lm).1 p1 vm mm1 (k1.take lm).2 v v')) [(0, 0), (0, 0), (0, 0), (0, 1), (0, 1), (1, 1), (2, 2), (3, 3)] (by kernel_rfl) (by kernel_rfl) (by kernel_rfl) (by kernel_rfl) (by kernel_rfl) (by kernel_rfl) (HA4.out.keep (Upd.refl _ _).drew) ?_ ?_
            · refine StepsC.cons ?_ (StepsC.cons ?_ (StepsC.cons ?_ (StepsC.cons ?_ (StepsC.cons ?_ (StepsC.cons ?_ (StepsC.cons ?_ (StepsC.cons ?_ StepsC.nil)))))))
              · refine chain_is _ (.inl rfl) ⟨_, rfl⟩ (by kernel_rfl) rfl ?_
                intro a W kst l0 h0 A0 hF hD
                have k0 : kst = 0 := Nat.le_antisymm h0 l0
                subst k0
                clear l0 h0
                have e9 : a.tmps[9]?.getD undef = _ := (ev a 9).symm.trans (hF 9 (by kernel_rfl))
                clear hF hD
                go_simp
              · refine chain_is _ (.inl rfl) ⟨_, rfl⟩ (by kernel_rfl) rfl ?_
                intro a W kst l0 h0 A0 hF hD
                have k0 : kst = 0 := Nat.le_antisymm h0 l0
                subst k0
                clear l0 h0
                have e24 : a.tmps[24]?.getD undef = _ := (ev a 24).symm.trans (hF 24 (by kernel_rfl))
                clear hF hD
                have hbx := (HBX.out _ _ A0).2
                have d0 := hbx.cell 0
                have d1 := hbx.cell 1
                have d2 := hbx.cell 2
                have d3 := hbx.cell 3
                have d4 := hbx.cell 4
                simp only [List.size_toArray, List.length_cons, List.length_nil, List.getElem?_toArray, List.getElem?_cons_zero, List.getElem?_cons_succ] at d0 d1 d2 d3 d4
                go_simp
              · refine chain_call (.inl rfl) ⟨_, rfl⟩ (by kernel_rfl) ?_
                intro a W kst l0 h0 A0 hF hD
                have k0 : kst = 0 := Nat.le_antisymm h0 l0
                subst k0
                clear l0 h0
                have e197 : a.tmps[197]?.getD undef = .pointer (some ⟨b, 0, none⟩) := (ev a 197).symm.trans (hD _ (Array.mem_of_getElem? (i := 0) rfl) rfl)
                have e198 : a.tmps[198]?.getD undef = .agg #[.int .i64 xt, .int .i64 xs, .int .i64 xns, .int .i64 xnr, .slice (some ⟨gx, ofx, none⟩) nv cxx] := (ev a 198).symm.trans (hD _ (Array.mem_of_getElem? (i := 1) rfl) rfl)
                clear hF hD
                refine ⟨_, _, by (go_simp; first | done | rfl | exact ⟨rfl, rfl⟩), ?_⟩
                refine (HT1.out _ A0).mono ?_
                rintro e w2 ⟨v, rfl, h⟩
                exact ⟨v, rfl, trivial, h⟩
              · refine chain_is _ (.inl rfl) ⟨_, rfl⟩ (by kernel_rfl) rfl ?_
                intro a W kst l0 h0 A0 hF hD
                have e11 : a.tmps[11]?.getD undef = _ := (ev a 11).symm.trans (hF 11 (by kernel_rfl))
                clear hF hD
                go_simp
              · refine chain_is _ (.inl rfl) ⟨_, rfl⟩ (by kernel_rfl) rfl ?_
                intro a W kst l0 h0 A0 hF hD
                have e21 : a.tmps[21]?.getD undef = _ := (ev a 21).symm.trans (hF 21 (by kernel_rfl))
                clear hF hD
                have hbx := (HBX.out _ _ A0).1
                have d0 := hbx.cell 0
                have d1 := hbx.cell 1
                have d2 := hbx.cell 2
                have d3 := hbx.cell 3
                have d4 := hbx.cell 4
                simp only [List.size_toArray, List.length_cons, List.length_nil, List.getElem?_toArray, List.getElem?_cons_zero, List.getElem?_cons_succ] at d0 d1 d2 d3 d4
                go_simp
              · refine chain_call (.inl rfl) ⟨_, rfl⟩ (by kernel_rfl) ?_
                intro a W kst l0 h0 A0 hF hD
                have k0 : kst = 1 := Nat.le_antisymm h0 l0
                subst k0
                clear l0 h0
                have e200 : a.tmps[200]?.getD undef = .pointer (some ⟨b', 0, none⟩) := (ev a 200).symm.trans (hD _ (Array.mem_of_getElem? (i := 0) rfl) rfl)
                have e201 : a.tmps[201]?.getD undef = .agg #[.int .i64 xt, .int .i64 xs, .int .i64 xns, .int .i64 xnr, .slice ax nx cx] := (ev a 201).symm.trans (hD _ (Array.mem_of_getElem? (i := 1) rfl) rfl)
                clear hF hD
                refine ⟨_, _, by (go_simp; first | done | rfl | exact ⟨rfl, rfl⟩), ?_⟩
                refine (HT2.out _ _ A0).mono ?_
                rintro e w2 ⟨v, rfl, h⟩
                exact ⟨v, rfl, trivial, h⟩
              · refine chain_run (.inl rfl) ⟨_, rfl⟩ (by kernel_rfl) ?_
                intro a W kst l0 h0 A0 hF hD
                have k0 : kst = 2 := Nat.le_antisymm h0 l0
                subst k0
                clear l0 h0
                clear hF hD
                exact ⟨_, W, by (go_simp; first | done | rfl), trivial, A0, (ev a 199).symm⟩
              · refine chain_run (.inl rfl) ⟨_, rfl⟩ (by kernel_rfl) ?_
                intro a W kst l0 h0 A0 hF hD
                have k0 : kst = 3 := Nat.le_antisymm h0 l0
                subst k0
                clear l0 h0
                clear hF hD
                exact ⟨_, W, by (go_simp; first | done | rfl), trivial, A0.1, A0.2, (ev a 202).symm⟩
            intro vals W hv hA
            have v0 : vals 0 = .pointer (some ⟨b, 0, none⟩) := hv 0 (by decide)
            have v1 : vals 1 = .agg #[.int .i64 xt, .int .i64 xs, .int .i64 xns, .int .i64 xnr, .slice (some ⟨gx, ofx, none⟩) nv cxx] := hv 1 (by decide)
            have v3 : vals 3 = .pointer (some ⟨b', 0, none⟩) := hv 3 (by decide)
            have v4 : vals 4 = .agg #[.int .i64 xt, .int .i64 xs, .int .i64 xns, .int .i64 xnr, .slice ax nx cx] := hv 4 (by decide)
            clear hv
            obtain ⟨hpe, h9, h10⟩ := hA
            have v6 : vals 6 = vals 2 := h9
            have v7 : vals 7 = vals 5 := h10
            simp only [putAll, Act.put, Nat.zero_add, Nat.reduceAdd, v6, v7, v0, v1, v3, v4, List.setIfInBounds_toArray, List.set_cons_zero, List.set_cons_succ]
            clear v0 v1 v3 v4
            clear h9 h10 v6 v7
            generalize vals 2 = va5 at *
            generalize vals 5 = vb5 at *
            have HPE := Lib.hid hpe
            have y4 := hb8_cell HPE.out.bx
            have q4 := hb8_cell HPE.out.bm
            have HRD5 : Hid (Rd W 5 (.slice ax nx cx) lm.length (lm.flatMap bkCAvps)) := by
              have h := HPE.out.s.avs.rd
              rw [avCells_bk] at h
              exact h
            clear HT1 HT2 HBX HA4 hpe
            go_wp2_with fail
            refine (bkStaysAvps lm _ _ _ _ HPE.out.l HRD5.out).mono ?_
            rintro e w9 ⟨rfl, hu9⟩
            have HD9 : Hid (∃ us om ob, CpB w w9 b b' bp g (k1.take lm).1 (k1.take lm).1 p1 vm mm1 va5 vb5 (k1.take lm).2 us om ob) := by
              obtain ⟨us, om, ob, h⟩ := HPE.out.c
              exact ⟨us, om, ob, h.keep hu9⟩
            have HTK := Lib.hid (HKP.out.1.take HLM.out.1 HLM.out.2)
            clear HPE HRD5 hu9 y4 q4
            go_wp2_with fail
            go_meet
            case rel =>
              obtain ⟨us, om, ob, h⟩ := HD9.out
              exact ⟨_, _, rfl, rfl, ⟨(k1.take lm).1, p1, mm1, (k1.take lm).2, us, om, ob, h, HTK.out.1, HKP.out.2.1, HTK.out.2, HKP.out.2.2.2⟩⟩
      case rest =>
      obtain ⟨va, vb, rfl, rfl, hte⟩ := hcut
      obtain ⟨k2, p2, m2, l2, us2, om2, ob2, hc2, hk2, hp2, hl2, hm2⟩ := hte.ex
      have HC2 := Lib.hid hc2
      have HK2 := Lib.hid (And.intro hk2 (And.intro hp2 (And.intro hl2 hm2)))
      clear hte hc2 hk2 hp2 hl2 hm2 HC1 HX1 HS1 HLM HKP d0
      as_aux_lemma =>
      go_wp2_with fail
      refine HC2.out.same.mono ?_
      rintro e w6 ⟨rfl, h6⟩
      obtain ⟨ab, cb, rfl, hcb1, hcb2⟩ := h6.ob_.o.shape
      obtain ⟨N, hN⟩ : ∃ n, n = l2.length := ⟨_, rfl⟩
      rw [← hN] at h6 hcb1
      rw [← hN]
      have HC3 := Lib.hid h6
      have HN := Lib.hid hN
      have hN2 : N ≤ 2 := by rw [hN]; exact HK2.out.2.2.1.le
      simp only [maxLen] at hcb2
      clear h6 hN HC2
      go_wp2_with fail
      go_loopg [15, 25] N (fun x s15 s25 wq => ∃ (j3 : Nat) (p3 : K) (m3 : List Sy) (vm3 : Value) (om3 : List Nat), j3 + x = N ∧ vm3 = s15 ∧ s25 = .int .i64 j3 ∧ CpB w wq b b' bp g k2 k2 p3 vm3 m3 va (.slice ab N cb) l2 us2 om3 ob2 ∧ KOk (2 * m1 + x) p3 ∧ SaysOk (5 * (100 - (m1 + 1)) + 1 + 2 * j3) m3)
      case atStart => exact ⟨0, p2, m2, _, om2, by omega, rfl, rfl, HC3.out, HK2.out.2.1.mono (by omega), HK2.out.2.2.2⟩
      case round =>
        obtain ⟨j3, p3, m3, vm3, om3, hj3, rfl, rfl, h3, hk3, hm3⟩ := hrel
        have H3 := Lib.hid h3
        have HK3 := Lib.hid (And.intro hk3 hm3)
        clear h3 hk3 hm3 HC3
        by_cases t3 : j3 < N
        ·
          as_aux_lemma =>
            obtain ⟨qy, hqy⟩ : ∃ x, l2[j3]? = some x := ⟨_, List.getElem?_eq_getElem (by have := HN.out; omega)⟩
            obtain ⟨uy, huy⟩ : ∃ x, us2[j3]? = some x := ⟨_, List.getElem?_eq_getElem (by have := HN.out; have := H3.out.ob_.n; omega)⟩
            have hg3 := H3.out.ob_.get j3 hqy huy
            rw [← HN.out] at hg3
            obtain ⟨aa, ca, hva, -, -, hcl, ou, hou⟩ := hg3
            injection hva with hva1 _ hva2
            subst hva1 hva2
            obtain ⟨au3, cu3, rfl, -, -⟩ := hou.shape
            have HSO := Lib.hid (HK2.out.2.2.1.all qy (List.mem_of_getElem? hqy))
            have HSY : Hid (Src w wr (.slice au3 qy.2.length cu3) qy.2) := .inr ⟨⟨ou, hou⟩, H3.out.ups⟩
            obtain ⟨n3, hn3⟩ : ∃ n, n = qy.2.length := ⟨_, rfl⟩
            rw [← hn3] at HSY hcl
            have HCL := Lib.hid hcl
            have HKT : Hid (KOk (2 * m1 + (N - (j3 + 1)) + 1) p3) := HK3.out.1.mono (by omega)
            have HLEN : Hid (m3.length + (p3.take qy.2).2.length ≤ 100000) := by
              have h1 := HK3.out.2.le
              have h2 := (HKT.out.take HSO.out.sz HSO.out.n).2.le
              show _ ≤ _
              omega
            have HA3 : Hid (PA w wr b b' bp g k2 p3 vm3 m3 va (.slice (some aa) N cb) l2 us2 om3 ob2 (.slice au3 n3 cu3) qy.2) := ⟨H3.out, HSY.out⟩
            have HPT : Hid (∀ W, PA w W b b' bp g k2 p3 vm3 m3 va (.slice (some aa) N cb) l2 us2 om3 ob2 (.slice au3 n3 cu3) qy.2 → Calls Tryz.prog 47 #[.pointer (some ⟨bp, 0, none⟩), .agg #[.int .i64 0, .int .i64 qy.1, .int .i64 0, .int .i64 0, .slice au3 n3 cu3]] W fun e W => ∃ v, e = .returned v ∧ (∃ oq, CpB w W b b' bp g k2 k2 (p3.take qy.2).1 vm3 m3 va (.slice (some aa) N cb) l2 us2 om3 ob2 ∧ RSaysAt W v (p3.take qy.2).2 oq)) := fun W h =>
              (h.c.ptake HKT.out 0 qy.1 0 0 qy.2 _ h.s HSO.out.sz HSO.out.n).mono fun e w' ⟨v, oq, he, h1, h2⟩ => ⟨v, he, oq, h1, h2⟩
            have HBX : Hid (∀ vs W, chV (fun W => PA w W b b' bp g k2 p3 vm3 m3 va (.slice (some aa) N cb) l2 us2 om3 ob2 (.slice au3 n3 cu3) qy.2) (fun v W => (∃ oq, CpB w W b b' bp g k2 k2 (p3.take qy.2).1 vm3 m3 va (.slice (some aa) N cb) l2 us2 om3 ob2 ∧ RSaysAt W v (p3.take qy.2).2 oq)) (fun u W => (∃ om, CpB w W b b' bp g k2 k2 (p3.take qy.2).1 u (m3 ++ (p3.take qy.2).2) va (.slice (some aa) N cb) l2 us2 om ob2)) vs W → ∃ ob', RSaysU W (.slice (some aa) N cb) l2 us2 ob') := fun vs W h => chV.any (Q := fun W => ∃ ob', RSaysU W (.slice (some aa) N cb) l2 us2 ob') h (fun _ h => ⟨_, h.c.ob_⟩) (fun _ _ h => h.elim fun _ h => ⟨_, h.1.ob_⟩) (fun _ _ h => h.elim fun _ h => ⟨_, h.ob_⟩)
            clear hqy huy hou hn3 hcl HSY H3
            go_wp2_with fail
            refine wp_region_chain [some (vm3), some (.pointer (some ⟨bp, 0, none⟩)), some (.slice (some aa) N cb), some (.int .i64 j3), some (.pointer (some (aa.add (j3 * 2)))), some (.pointer (some (aa.add (j3 * 2)))), some (.int .i64 qy.1), some (.slice (some aa) N cb), some (.int .i64 j3), some (.pointer (some (aa.add (j3 * 2)))), some (.pointer (some ⟨(aa.add (j3 * 2)).block, (aa.add (j3 * 2)).off + 1, none⟩)), some (.slice au3 n3 cu3), some (.agg #[.int .i64 0, .int .i64 qy.1, .int .i64 0, .int .i64 0, .slice au3 n3 cu3]), none, none, none] [13,14,15] (chV (fun W => PA w W b b' bp g k2 p3 vm3 m3 va (.slice (some aa) N cb) l2 us2 om3 ob2 (.slice au3 n3 cu3) qy.2) (fun v W => (∃ oq, CpB w W b b' bp g k2 k2 (p3.take qy.2).1 vm3 m3 va (.slice (some aa) N cb) l2 us2 om3 ob2 ∧ RSaysAt W v (p3.take qy.2).2 oq)) (fun u W => (∃ om, CpB w W b b' bp g k2 k2 (p3.take qy.2).1 u (m3 ++ (p3.take qy.2).2) va (.slice (some aa) N cb) l2 us2 om ob2))) [(0, 1), (0, 0), (0, 0), (0, 0), (0, 0), (0, 0), (0, 0), (0, 0), (0, 0), (0, 0), (0, 0), (0, 0), (0, 0), (0, 0), (1, 1), (2, 2)] (by kernel_rfl) (by kernel_rfl) (by kernel_rfl) (by kernel_rfl) (by kernel_rfl) (by kernel_rfl) (HA3.out.keep (Upd.refl _ _).drew) ?_ ?_
            · refine StepsC.cons ?_ (StepsC.cons ?_ (StepsC.cons ?_ (StepsC.cons ?_ (StepsC.cons ?_ (StepsC.cons ?_ (StepsC.cons ?_ (StepsC.cons ?_ (StepsC.cons ?_ (StepsC.cons ?_ (StepsC.cons ?_ (StepsC.cons ?_ (StepsC.cons ?_ (StepsC.cons ?_ (StepsC.cons ?_ (StepsC.cons ?_ StepsC.nil)))))))))))))))
              · refine chain_is _ (.inl rfl) ⟨_, rfl⟩ (by kernel_rfl) rfl ?_
                intro a W kst l0 h0 A0 hF hD
                have e15 : a.tmps[15]?.getD undef = _ := (ev a 15).symm.trans (hF 15 (by kernel_rfl))
                clear hF hD
                go_simp
              · refine chain_is _ (.inl rfl) ⟨_, rfl⟩ (by kernel_rfl) rfl ?_
                intro a W kst l0 h0 A0 hF hD
                have k0 : kst = 0 := Nat.le_antisymm h0 l0
                subst k0
                clear l0 h0
                have e13 : a.tmps[13]?.getD undef = _ := (ev a 13).symm.trans (hF 13 (by kernel_rfl))
                clear hF hD
                go_simp
              · refine chain_is _ (.inl rfl) ⟨_, rfl⟩ (by kernel_rfl) rfl ?_
                intro a W kst l0 h0 A0 hF hD
                have k0 : kst = 0 := Nat.le_antisymm h0 l0
                subst k0
                clear l0 h0
                have e20 : a.tmps[20]?.getD undef = _ := (ev a 20).symm.trans (hF 20 (by kernel_rfl))
                clear hF hD
                go_simp
              · refine chain_is _ (.inl rfl) ⟨_, rfl⟩ (by kernel_rfl) rfl ?_
                intro a W kst l0 h0 A0 hF hD
                have k0 : kst = 0 := Nat.le_antisymm h0 l0
                subst k0
                clear l0 h0
                have e25 : a.tmps[25]?.getD undef = _ := (ev a 25).symm.trans (hF 25 (by kernel_rfl))
                clear hF hD
                go_simp
              · refine chain_is _ (.inl rfl) ⟨_, rfl⟩ (by kernel_rfl) rfl ?_
                intro a W kst l0 h0 A0 hF hD
                have k0 : kst = 0 := Nat.le_antisymm h0 l0
                subst k0
                clear l0 h0
                have e221 : a.tmps[221]?.getD undef = .slice (some aa) N cb := (ev a 221).symm.trans (hD _ (Array.mem_of_getElem? (i := 0) rfl) rfl)
                have e222 : a.tmps[222]?.getD undef = .int .i64 j3 := (ev a 222).symm.trans (hD _ (Array.mem_of_getElem? (i := 1) rfl) rfl)
                clear hF hD
                go_simp
              · refine chain_is _ (.inl rfl) ⟨_, rfl⟩ (by kernel_rfl) rfl ?_
                intro a W kst l0 h0 A0 hF hD
                have k0 : kst = 0 := Nat.le_antisymm h0 l0
                subst k0
                clear l0 h0
                have e223 : a.tmps[223]?.getD undef = .pointer (some (aa.add (j3 * 2))) := (ev a 223).symm.trans (hD _ (Array.mem_of_getElem? (i := 0) rfl) rfl)
                clear hF hD
                go_simp
              · refine chain_is _ (.inl rfl) ⟨_, rfl⟩ (by kernel_rfl) rfl ?_
                intro a W kst l0 h0 A0 hF hD
                have k0 : kst = 0 := Nat.le_antisymm h0 l0
                subst k0
                clear l0 h0
                have e224 : a.tmps[224]?.getD undef = .pointer (some (aa.add (j3 * 2))) := (ev a 224).symm.trans (hD _ (Array.mem_of_getElem? (i := 0) rfl) rfl)
                clear hF hD
                obtain ⟨ob', hbx⟩ := HBX.out _ _ A0
                obtain ⟨c0, c1⟩ := HCL.out _ _ hbx
                go_simp
              · refine chain_is _ (.inl rfl) ⟨_, rfl⟩ (by kernel_rfl) rfl ?_
                intro a W kst l0 h0 A0 hF hD
                have k0 : kst = 0 := Nat.le_antisymm h0 l0
                subst k0
                clear l0 h0
                have e20 : a.tmps[20]?.getD undef = _ := (ev a 20).symm.trans (hF 20 (by kernel_rfl))
                clear hF hD
                go_simp
              · refine chain_is _ (.inl rfl) ⟨_, rfl⟩ (by kernel_rfl) rfl ?_
                intro a W kst l0 h0 A0 hF hD
                have k0 : kst = 0 := Nat.le_antisymm h0 l0
                subst k0
                clear l0 h0
                have e25 : a.tmps[25]?.getD undef = _ := (ev a 25).symm.trans (hF 25 (by kernel_rfl))
                clear hF hD
                go_simp
              · refine chain_is _ (.inl rfl) ⟨_, rfl⟩ (by kernel_rfl) rfl ?_
                intro a W kst l0 h0 A0 hF hD
                have k0 : kst = 0 := Nat.le_antisymm h0 l0
                subst k0
                clear l0 h0
                have e226 : a.tmps[226]?.getD undef = .slice (some aa) N cb := (ev a 226).symm.trans (hD _ (Array.mem_of_getElem? (i := 0) rfl) rfl)
                have e227 : a.tmps[227]?.getD undef = .int .i64 j3 := (ev a 227).symm.trans (hD _ (Array.mem_of_getElem? (i := 1) rfl) rfl)
                clear hF hD
                go_simp
              · refine chain_is _ (.inl rfl) ⟨_, rfl⟩ (by kernel_rfl) rfl ?_
                intro a W kst l0 h0 A0 hF hD
                have k0 : kst = 0 := Nat.le_antisymm h0 l0
                subst k0
                clear l0 h0
                have e228 : a.tmps[228]?.getD undef = .pointer (some (aa.add (j3 * 2))) := (ev a 228).symm.trans (hD _ (Array.mem_of_getElem? (i := 0) rfl) rfl)
                clear hF hD
                go_simp
              · refine chain_is _ (.inl rfl) ⟨_, rfl⟩ (by kernel_rfl) rfl ?_
                intro a W kst l0 h0 A0 hF hD
                have k0 : kst = 0 := Nat.le_antisymm h0 l0
                subst k0
                clear l0 h0
                have e229 : a.tmps[229]?.getD undef = .pointer (some ⟨(aa.add (j3 * 2)).block, (aa.add (j3 * 2)).off + 1, none⟩) := (ev a 229).symm.trans (hD _ (Array.mem_of_getElem? (i := 0) rfl) rfl)
                clear hF hD
                obtain ⟨ob', hbx⟩ := HBX.out _ _ A0
                obtain ⟨c0, c1⟩ := HCL.out _ _ hbx
                go_simp
              · refine chain_is _ (.inl rfl) ⟨_, rfl⟩ (by kernel_rfl) rfl ?_
                intro a W kst l0 h0 A0 hF hD
                have k0 : kst = 0 := Nat.le_antisymm h0 l0
                subst k0
                clear l0 h0
                have e225 : a.tmps[225]?.getD undef = .int .i64 qy.1 := (ev a 225).symm.trans (hD _ (Array.mem_of_getElem? (i := 0) rfl) rfl)
                have e230 : a.tmps[230]?.getD undef = .slice au3 n3 cu3 := (ev a 230).symm.trans (hD _ (Array.mem_of_getElem? (i := 1) rfl) rfl)
                clear hF hD
                go_simp
              · refine chain_call (.inl rfl) ⟨_, rfl⟩ (by kernel_rfl) ?_
                intro a W kst l0 h0 A0 hF hD
                have k0 : kst = 0 := Nat.le_antisymm h0 l0
                subst k0
                clear l0 h0
                have e220 : a.tmps[220]?.getD undef = .pointer (some ⟨bp, 0, none⟩) := (ev a 220).symm.trans (hD _ (Array.mem_of_getElem? (i := 0) rfl) rfl)
                have e231 : a.tmps[231]?.getD undef = .agg #[.int .i64 0, .int .i64 qy.1, .int .i64 0, .int .i64 0, .slice au3 n3 cu3] := (ev a 231).symm.trans (hD _ (Array.mem_of_getElem? (i := 1) rfl) rfl)
                clear hF hD
                refine ⟨_, _, by (go_simp; first | done | rfl | exact ⟨rfl, rfl⟩), ?_⟩
                refine (HPT.out _ A0).mono ?_
                rintro e w2 ⟨v, rfl, h⟩
                exact ⟨v, rfl, trivial, h⟩
              · refine chain_run (.inl rfl) ⟨_, rfl⟩ (by kernel_rfl) ?_
                intro a W kst l0 h0 A0 hF hD
                have k0 : kst = 1 := Nat.le_antisymm h0 l0
                subst k0
                clear l0 h0
                have e219 : a.tmps[219]?.getD undef = vm3 := (ev a 219).symm.trans (hD _ (Array.mem_of_getElem? (i := 0) rfl) rfl)
                clear hF hD
                obtain ⟨oq, hc, hq⟩ := A0
                obtain ⟨ao7, cap7, w7, om7, hrun, h7⟩ := hc.append hq HLEN.out 78
                exact ⟨_, w7, exec_append rfl ((ev a 219).trans e219) rfl hrun, trivial, om7, h7⟩
              · refine chain_run (.inl rfl) ⟨_, rfl⟩ (by kernel_rfl) ?_
                intro a W kst l0 h0 A0 hF hD
                have k0 : kst = 2 := Nat.le_antisymm h0 l0
                subst k0
                clear l0 h0
                clear hF hD
                exact ⟨_, W, by (go_simp; first | done | rfl), trivial, A0, (ev a 233).symm⟩
            intro vals W hv hA
            have v0 : vals 0 = vm3 := hv 0 (by decide)
            have v1 : vals 1 = .pointer (some ⟨bp, 0, none⟩) := hv 1 (by decide)
            have v2 : vals 2 = .slice (some aa) N cb := hv 2 (by decide)
            have v3 : vals 3 = .int .i64 j3 := hv 3 (by decide)
            have v4 : vals 4 = .pointer (some (aa.add (j3 * 2))) := hv 4 (by decide)
            have v5 : vals 5 = .pointer (some (aa.add (j3 * 2))) := hv 5 (by decide)
            have v6 : vals 6 = .int .i64 qy.1 := hv 6 (by decide)
            have v7 : vals 7 = .slice (some aa) N cb := hv 7 (by decide)
            have v8 : vals 8 = .int .i64 j3 := hv 8 (by decide)
            have v9 : vals 9 = .pointer (some (aa.add (j3 * 2))) := hv 9 (by decide)
            have v10 : vals 10 = .pointer (some ⟨(aa.add (j3 * 2)).block, (aa.add (j3 * 2)).off + 1, none⟩) := hv 10 (by decide)
            have v11 : vals 11 = .slice au3 n3 cu3 := hv 11 (by decide)
            have v12 : vals 12 = .agg #[.int .i64 0, .int .i64 qy.1, .int .i64 0, .int .i64 0, .slice au3 n3 cu3] := hv 12 (by decide)
            clear hv
            obtain ⟨hpe, h15⟩ := hA
            have v15 : vals 15 = vals 14 := h15
            simp only [putAll, Act.put, Nat.zero_add, Nat.reduceAdd, v15, v0, v1, v2, v3, v4, v5, v6, v7, v8, v9, v10, v11, v12, List.setIfInBounds_toArray, List.set_cons_zero, List.set_cons_succ]
            clear v0 v1 v2 v3 v4 v5 v6 v7 v8 v9 v10 v11 v12
            clear h15 v15
            generalize vals 14 = vm7 at *
            have HPE := Lib.hid hpe
            clear hpe HPT HBX HCL HA3
            have HTK := Lib.hid (HKT.out.take HSO.out.sz HSO.out.n)
            go_wp2_with fail
            go_roundg (N - (j3 + 1))
            case rel =>
              obtain ⟨om7, h7⟩ := HPE.out
              exact ⟨j3 + 1, (p3.take qy.2).1, m3 ++ (p3.take qy.2).2, _, om7, by omega, rfl, by go_num, h7, HTK.out.1.mono (by omega), (HK3.out.2.app HTK.out.2).mono (by omega)⟩
            case measure => omega
        · obtain rfl : j3 = N := by omega
          as_aux_lemma =>
          go_wp2_with fail
          refine (H3.out.a.said (HK2.out.2.2.1.mono (by omega))).mono ?_
          rintro e w7 ⟨rfl, h7⟩
          have H7 := Lib.hid h7
          clear h7 H3
          as_aux_lemma =>
          go_wp2_with fail
          refine (H7.out.got_ HK2.out.1).mono ?_
          rintro e w8 ⟨vg, og, rfl, ho8, hf8, hu8, h8⟩
          obtain ⟨ag, cg, rfl, -, -⟩ := ho8.shape
          obtain ⟨ng, hng⟩ : ∃ n, n = k2.got.length := ⟨_, rfl⟩
          have HADD := Lib.hid (h8.addGot H7.out hu8 HK2.out.1 ho8 hf8)
          rw [← hng] at HADD
          rw [← hng]
          have HNG := Lib.hid hng
          clear ho8 hf8 hu8 h8 hng H7
          as_aux_lemma =>
          go_wp2_with fail
          refine HADD.out.mono ?_
          rintro e w9 ⟨rfl, h9, ho9⟩
          have H9 := Lib.hid h9
          have HO9 := Lib.hid ho9
          clear h9 ho9 HADD
          as_aux_lemma =>
          go_wp2_with fail
          refine (ids_any b k2 _ H9.out.c HK2.out.1.ok.m).mono ?_
          rintro e wa ⟨rfl, hua⟩
          have HA := Lib.hid (H9.out.keep hua)
          have HOA := Lib.hid (HO9.out.upd hua (by simp))
          clear hua H9 HO9
          as_aux_lemma =>
          go_wp2_with fail
          refine (heard_any b k2 _ HA.out.c HK2.out.1.ok.m).mono ?_
          rintro e wb ⟨rfl, hub⟩
          have HB := Lib.hid (HA.out.keep hub)
          have HOB := Lib.hid (HOA.out.upd hub (by simp))
          clear hub HA HOA
          obtain ⟨rw_, rg_, row, rog, r1, r2, r3⟩ := HB.out.r
          obtain ⟨arg, crg, rfl, -, -⟩ := r3.shape
          have y0 := r1.cell 0
          have y2 := r1.cell 2
          have y4 := r1.cell 4
          have y6 := r1.cell 6
          have y7 := r1.cell 7
          have y8 := r1.cell 8
          simp [K.rcells] at y0 y2 y4 y6 y7 y8
          rw [← HNG.out] at y6
          have HST : Hid (∀ x, Calls Tryz.prog 53 #[.pointer (some ⟨b, 0, none⟩)] (wb.drewN x) fun e w' => e = .returned (.int .i64 k2.state) ∧ ∃ y, w' = wb.drewN y) := fun x => by
            have h := state_any b k2 _ (HB.out.keep ((Upd.refl _ wb).drewN x)).c HK2.out.1.ok.m
            exact h.mono fun e w' ⟨h1, h2⟩ => ⟨h1, x, h2.symm⟩
          have HSM : Hid (∀ x, Calls Tryz.prog 22 #[.slice ag ng cg, .slice arg ng crg] (wb.drewN x) fun e w' => e = .returned (.bool true) ∧ ∃ y, w' = wb.drewN y) := fun x => by
            have hu : Upd [] wb (wb.drewN x) := (Upd.refl _ _).drewN x
            have h1 := (HOB.out.upd hu (by simp)).rdB (by rw [avCells_bk]; exact bkCAvps_one _)
            have h2 := (r3.upd hu (by simp)).rdB (by rw [avCells_bk]; exact bkCAvps_one _)
            rw [← HNG.out] at h2
            rw [avCells_bk] at h1 h2
            rw [HNG.out] at h1 h2 ⊢
            exact Calls.quiet_of (bkSameAvps k2.got _ _ _ h1 h2)
          have HFIN := Lib.hid (And.intro HK2.out.1 (And.intro HK3.out HB.out))
          obtain ⟨z0, hz0⟩ : ∃ x, x = k2.state := ⟨_, rfl⟩
          obtain ⟨z1, hz1⟩ : ∃ x, x = k2.id := ⟨_, rfl⟩
          obtain ⟨z2, hz2⟩ : ∃ x, x = k2.peer := ⟨_, rfl⟩
          obtain ⟨z3, hz3⟩ : ∃ x, x = k2.wens := ⟨_, rfl⟩
          obtain ⟨z4, hz4⟩ : ∃ x, x = k2.slis := ⟨_, rfl⟩
          rw [← hz0] at y4 HST
          rw [← hz1] at y0
          rw [← hz2] at y2
          rw [← hz3] at y7
          rw [← hz4] at y8
          rw [← hz1, ← hz2, ← hz3, ← hz4]
          have hltb := r1.lt
          clear r1 r2 r3 hz0 hz1 hz2 hz3 hz4 HB HOB HNG HK2 HK3 HN
          as_aux_lemma =>
          go_wp2_with fail
          go_quiet ((first | (go_at_call 53; exact HST.out _) | (go_at_call 22; exact HSM.out _)))
          go_wp2_with fail
          go_roundg (L - (j + 1))
          case rel => exact ⟨j + 1, k2, p3, m3, _, by omega, rfl, by go_num, HFIN.out.2.2.keep ((Upd.refl _ _).drewN _), HFIN.out.1.mono (by have := HM1.out; omega), HFIN.out.2.1.1.mono (by have := HM1.out; omega), HFIN.out.2.1.2.mono (by have := HM1.out; omega)⟩
          case measure => omega
end Go.Proofs.YtglafpdealjlnaaGreat
