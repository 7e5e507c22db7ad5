/- The walk of chapter 22's CallTells. -/
import Derived.Test.YtihedbaomingpaaCallTeP
namespace Go.Proofs.Ytihedbaomingpaa
open Go.RowKit
set_option linter.unusedSimpArgs false
set_option linter.unusedVariables false
set_option maxRecDepth 100000

set_option maxHeartbeats 8000000 in
theorem callTells_in (id : Int) (n m : Nat) (text : ByteArray) (h1 : 1 ≤ id) (h2 : id ≤ 65535) (h3 : n ≤ 20) (h4 : m ≤ 20) (ht : text.size ≤ 1000) (w : World) :
    Calls Try.prog 5 #[.int .i64 id, .int .i64 n, .int .i64 m, .string text] w fun e w' => e = .returned (.bool true) ∧ Upd [] w w' := by
  have HN := Lib.hid (And.intro h1 (And.intro h2 (And.intro h3 (And.intro h4 ht))))
  have ht2 : text.size ≤ maxLen := by simp only [maxLen]; omega
  have HT := Lib.hid ht2
  clear ht2
  go_enter Try.func5, Try.ntmps5
  go_wp2_with fail
  refine (new_call id 1 false w ⟨h1, h2⟩ (by omega)).mono ?_
  rintro e w1 ⟨rfl, ha, u1⟩
  go_wp2_with fail
  refine (new_call 9 1 false w1 (by omega) (by omega)).mono ?_
  rintro e w2 ⟨rfl, hb, u2⟩
  have hne : w.heap.size ≠ w1.heap.size := by have := ha.lt; omega
  obtain ⟨ca, ha0⟩ : ∃ x, x = w.heap.size := ⟨_, rfl⟩
  obtain ⟨cb, hb0⟩ : ∃ x, x = w1.heap.size := ⟨_, rfl⟩
  have HNEW : Hid (w.heap.size ≤ ca ∧ w.heap.size ≤ cb) := by have := u1.size; exact ⟨by omega, by omega⟩
  rw [← ha0] at ha hne
  rw [← hb0] at hb hne
  rw [← ha0, ← hb0]
  have HA := Lib.hid (ha.upd u2)
  have HB := Lib.hid hb
  have HNE := Lib.hid hne
  have HU := Lib.hid (u1.trans u2)
  clear ha hb ha0 hb0 hne u1 u2
  go_wp2_with fail
  refine (errors_any ca _ text _ HA.out rfl HT.out).mono ?_
  rintro e w3 ⟨v3, o3, rfl, q1, q2⟩
  rw [te_quiet] at q1
  obtain ⟨ao3, cap3, rfl, e3, e4⟩ := q1.shape
  clear q1
  have HA3 := Lib.hid (HA.out.upd q2)
  have HB3 := Lib.hid (HB.out.upd q2)
  have HU3 := Lib.hid (HU.out.trans q2)
  clear q2 HA HB HU e3 e4
  simp only [List.length_nil]
  go_wp2_with fail
  refine (map_any ca _ text _ HA3.out rfl HT.out).mono ?_
  rintro e w4 ⟨v3, o3, rfl, q1, q2⟩
  rw [te_quiet] at q1
  obtain ⟨ao4, cap4, rfl, e3, e4⟩ := q1.shape
  clear q1
  have HA4 := Lib.hid (HA3.out.upd q2)
  have HB4 := Lib.hid (HB3.out.upd q2)
  have HU4 := Lib.hid (HU3.out.trans q2)
  clear q2 HA3 HB3 HU3 e3 e4
  simp only [List.length_nil]
  go_wp2_with fail
  refine (open_any ca (K.new id 1 false) _ HA4.out rfl).mono ?_
  rintro e w5 ⟨vx, ox, rfl, q1, q2, q3⟩
  rw [te_open] at q1 q2
  have HB5 := Lib.hid (HB4.out.far HA4.out HNE.out.symm q3)
  have HU5 : Hid (Upd [] w w5) := HU4.out.trans' q3 (fun x hx => .inr (by simp at hx; subst hx; exact HNEW.out.1))
  have HS5 : Hid (TeSt w w5 ca cb (teA id 0) (teB id 0) (teL id 0) vx) := ⟨q2, HB5.out, ⟨_, q1⟩, HU5.out⟩
  clear q1 q2 q3 HA4 HB4 HU4 HB5 HU5
  go_wp2_with fail
  go_loopg [13, 14] 3 (fun q s13 s14 wr => ∃ k : Nat, k + q = 3 ∧ s14 = .int .i64 k ∧ TeSt w wr ca cb (teA id k) (teB id k) (teL id k) s13)
  case atStart => exact ⟨0, by omega, rfl, HS5.out⟩
  case round =>
    obtain ⟨k, hk, rfl, hst⟩ := hrel
    have HST := Lib.hid hst
    have hk4 : k = 0 ∨ k = 1 ∨ k = 2 ∨ k = 3 := by omega
    rcases hk4 with rfl | rfl | rfl | rfl
    · skip
      obtain ⟨hsa, hsb, ⟨ox, hsx⟩, hsu⟩ := hst
      have HA := Lib.hid (show CallAt wr ca (tka1 id) from hsa)
      have HB := Lib.hid (show CallAt wr cb (K.new 9 1 false) from hsb)
      have HX := Lib.hid (show SaysAt wr _ [(0, tl0 id)] ox from hsx)
      have HU := Lib.hid hsu
      clear hsa hsb hsx hsu HST
      obtain ⟨gx, fx, cx, ux, hvx, mx1, mx2, csx, cux, avx, farx⟩ := SaysAt.one_get HX.out
      obtain ⟨aox, nx, dx, rfl⟩ := avx.shape
      subst hvx
      simp only [maxLen] at mx2
      have HLT : Hid (gx < wr.heap.size) := Lib.hid (cell_lt' csx)
      have HCS := Lib.hid csx
      have HCU := Lib.hid cux
      have HAV := Lib.hid avx
      have HFARR : Hid (∀ W, Upd [cb] wr W → AvsAt W (.slice aox nx dx) (tl0 id)) := fun W hu => farx W cb _ HB.out hu
      have HCALL := Lib.hid HB.out
      have HSZ := Lib.hid (tl0_small id)
      have HOKK := Lib.hid (K.new_ok 9 1 false)
      have HLEN : Hid ((tl0 id).length ≤ 1000000) := by show _ ≤ _; simp [tl0, tl1, tl2]
      clear csx cux avx farx
      go_upto_region 16 with (fail)
      refine wp_region_chain [some (.pointer (some ⟨cb, 0, none⟩)), some (.slice (some ⟨gx, fx, none⟩) 1 cx), some (.pointer (some ⟨gx, fx, none⟩)), some (.pointer (some ⟨gx, fx, none⟩)), some (.int .i64 0), some (.slice (some ⟨gx, fx, none⟩) 1 cx), some (.pointer (some ⟨gx, fx, none⟩)), some (.pointer (some ⟨gx, fx + 1, none⟩)), some (.slice aox nx dx), some (.agg #[.int .i64 0, .int .i64 0, .int .i64 0, .int .i64 0, .slice aox nx dx]), none, none] [10,11] (takeS wr cb (K.take (K.new 9 1 false) (tl0 id))) [(0, 0), (0, 0), (0, 0), (0, 0), (0, 0), (0, 0), (0, 0), (0, 0), (0, 0), (0, 0), (0, 0), (1, 1)] (by kernel_rfl) (by kernel_rfl) (by kernel_rfl) (by kernel_rfl) (by kernel_rfl) (by kernel_rfl) ((Upd.refl [] _).drew) ?_ ?_
      · refine StepsC.cons ?_ (StepsC.cons ?_ (StepsC.cons ?_ (StepsC.cons ?_ (StepsC.cons ?_ (StepsC.cons ?_ (StepsC.cons ?_ (StepsC.cons ?_ (StepsC.cons ?_ (StepsC.cons ?_ (StepsC.cons ?_ (StepsC.cons ?_ StepsC.nil)))))))))))
        · refine chain_is _ (.inl rfl) ⟨_, rfl⟩ (by kernel_rfl) rfl ?_
          intro a W kst l0 h0 A0 hF hD
          have k0 : kst = 0 := Nat.le_antisymm h0 l0
          subst k0
          clear l0 h0
          have e15 : a.tmps[15]?.getD undef = _ := (ev a 15).symm.trans (hF 15 (by kernel_rfl))
          clear hF hD
          go_simp
        · refine chain_is _ (.inl rfl) ⟨_, rfl⟩ (by kernel_rfl) rfl ?_
          intro a W kst l0 h0 A0 hF hD
          have k0 : kst = 0 := Nat.le_antisymm h0 l0
          subst k0
          clear l0 h0
          have e13 : a.tmps[13]?.getD undef = _ := (ev a 13).symm.trans (hF 13 (by kernel_rfl))
          clear hF hD
          go_simp
        · refine chain_is _ (.inl rfl) ⟨_, rfl⟩ (by kernel_rfl) rfl ?_
          intro a W kst l0 h0 A0 hF hD
          have k0 : kst = 0 := Nat.le_antisymm h0 l0
          subst k0
          clear l0 h0
          have e97 : a.tmps[97]?.getD undef = .slice (some ⟨gx, fx, none⟩) 1 cx := (ev a 97).symm.trans (hD _ (Array.mem_of_getElem? (i := 0) rfl) rfl)
          clear hF hD
          go_simp
        · refine chain_is _ (.inl rfl) ⟨_, rfl⟩ (by kernel_rfl) rfl ?_
          intro a W kst l0 h0 A0 hF hD
          have k0 : kst = 0 := Nat.le_antisymm h0 l0
          subst k0
          clear l0 h0
          have e98 : a.tmps[98]?.getD undef = .pointer (some ⟨gx, fx, none⟩) := (ev a 98).symm.trans (hD _ (Array.mem_of_getElem? (i := 0) rfl) rfl)
          clear hF hD
          go_simp
        · refine chain_is _ (.inl rfl) ⟨_, rfl⟩ (by kernel_rfl) rfl ?_
          intro a W kst l0 h0 A0 hF hD
          have k0 : kst = 0 := Nat.le_antisymm h0 l0
          subst k0
          clear l0 h0
          have e99 : a.tmps[99]?.getD undef = .pointer (some ⟨gx, fx, none⟩) := (ev a 99).symm.trans (hD _ (Array.mem_of_getElem? (i := 0) rfl) rfl)
          clear hF hD
          have hu : Upd [] _ W := A0
          have c1 := (hu.cell (p := ⟨gx, fx, none⟩) HLT.out (by simp)).trans HCS.out
          go_simp
        · refine chain_is _ (.inl rfl) ⟨_, rfl⟩ (by kernel_rfl) rfl ?_
          intro a W kst l0 h0 A0 hF hD
          have k0 : kst = 0 := Nat.le_antisymm h0 l0
          subst k0
          clear l0 h0
          have e13 : a.tmps[13]?.getD undef = _ := (ev a 13).symm.trans (hF 13 (by kernel_rfl))
          clear hF hD
          go_simp
        · refine chain_is _ (.inl rfl) ⟨_, rfl⟩ (by kernel_rfl) rfl ?_
          intro a W kst l0 h0 A0 hF hD
          have k0 : kst = 0 := Nat.le_antisymm h0 l0
          subst k0
          clear l0 h0
          have e101 : a.tmps[101]?.getD undef = .slice (some ⟨gx, fx, none⟩) 1 cx := (ev a 101).symm.trans (hD _ (Array.mem_of_getElem? (i := 0) rfl) rfl)
          clear hF hD
          go_simp
        · refine chain_is _ (.inl rfl) ⟨_, rfl⟩ (by kernel_rfl) rfl ?_
          intro a W kst l0 h0 A0 hF hD
          have k0 : kst = 0 := Nat.le_antisymm h0 l0
          subst k0
          clear l0 h0
          have e102 : a.tmps[102]?.getD undef = .pointer (some ⟨gx, fx, none⟩) := (ev a 102).symm.trans (hD _ (Array.mem_of_getElem? (i := 0) rfl) rfl)
          clear hF hD
          go_simp
        · refine chain_is _ (.inl rfl) ⟨_, rfl⟩ (by kernel_rfl) rfl ?_
          intro a W kst l0 h0 A0 hF hD
          have k0 : kst = 0 := Nat.le_antisymm h0 l0
          subst k0
          clear l0 h0
          have e103 : a.tmps[103]?.getD undef = .pointer (some ⟨gx, fx + 1, none⟩) := (ev a 103).symm.trans (hD _ (Array.mem_of_getElem? (i := 0) rfl) rfl)
          clear hF hD
          have hu : Upd [] _ W := A0
          have c1 := (hu.cell (p := ⟨gx, fx + 1, none⟩) HLT.out (by simp)).trans HCU.out
          go_simp
        · refine chain_is _ (.inl rfl) ⟨_, rfl⟩ (by kernel_rfl) rfl ?_
          intro a W kst l0 h0 A0 hF hD
          have k0 : kst = 0 := Nat.le_antisymm h0 l0
          subst k0
          clear l0 h0
          have e100 : a.tmps[100]?.getD undef = .int .i64 0 := (ev a 100).symm.trans (hD _ (Array.mem_of_getElem? (i := 0) rfl) rfl)
          have e104 : a.tmps[104]?.getD undef = .slice aox nx dx := (ev a 104).symm.trans (hD _ (Array.mem_of_getElem? (i := 1) rfl) rfl)
          clear hF hD
          go_simp
        · refine chain_call (.inl rfl) ⟨_, rfl⟩ (by kernel_rfl) ?_
          intro a W kst l0 h0 A0 hF hD
          have k0 : kst = 0 := Nat.le_antisymm h0 l0
          subst k0
          clear l0 h0
          have e96 : a.tmps[96]?.getD undef = .pointer (some ⟨cb, 0, none⟩) := (ev a 96).symm.trans (hD _ (Array.mem_of_getElem? (i := 0) rfl) rfl)
          have e105 : a.tmps[105]?.getD undef = .agg #[.int .i64 0, .int .i64 0, .int .i64 0, .int .i64 0, .slice aox nx dx] := (ev a 105).symm.trans (hD _ (Array.mem_of_getElem? (i := 1) rfl) rfl)
          clear hF hD
          have hu : Upd [] _ W := A0
          refine ⟨_, _, by (go_simp; first | done | rfl | exact ⟨rfl, rfl⟩), ?_⟩
          refine (take_any cb (K.new 9 1 false) (tl0 id) 0 0 0 0 _ _ (HCALL.out.upd hu) (HAV.out.upd hu) HSZ.out HOKK.out HLEN.out (fun W2 hw => HFARR.out _ ((hu.mono (by simp)).trans hw))).mono ?_
          rintro e w3 ⟨v3, own3, rfl, h1, h2, h3⟩
          exact ⟨_, rfl, trivial, own3, h1, h2, (hu.mono (by simp)).trans h3⟩
        · refine chain_run (.inl rfl) ⟨_, rfl⟩ (by kernel_rfl) ?_
          intro a W kst l0 h0 A0 hF hD
          have k0 : kst = 1 := Nat.le_antisymm h0 l0
          subst k0
          clear l0 h0
          clear hF hD
          obtain ⟨own1, h1, h2, h3⟩ := A0
          exact ⟨_, W, by (go_simp; first | done | rfl | exact ⟨rfl, rfl⟩), trivial, own1, by rw [← ev]; exact h1, h2, h3⟩
      intro vals W hv hA
      have v0 : vals 0 = .pointer (some ⟨cb, 0, none⟩) := hv 0 (by decide)
      have v1 : vals 1 = .slice (some ⟨gx, fx, none⟩) 1 cx := hv 1 (by decide)
      have v2 : vals 2 = .pointer (some ⟨gx, fx, none⟩) := hv 2 (by decide)
      have v3 : vals 3 = .pointer (some ⟨gx, fx, none⟩) := hv 3 (by decide)
      have v4 : vals 4 = .int .i64 0 := hv 4 (by decide)
      have v5 : vals 5 = .slice (some ⟨gx, fx, none⟩) 1 cx := hv 5 (by decide)
      have v6 : vals 6 = .pointer (some ⟨gx, fx, none⟩) := hv 6 (by decide)
      have v7 : vals 7 = .pointer (some ⟨gx, fx + 1, none⟩) := hv 7 (by decide)
      have v8 : vals 8 = .slice aox nx dx := hv 8 (by decide)
      have v9 : vals 9 = .agg #[.int .i64 0, .int .i64 0, .int .i64 0, .int .i64 0, .slice aox nx dx] := hv 9 (by decide)
      clear hv
      obtain ⟨own1, h1, h2, h3⟩ := hA
      simp only [putAll, Act.put, Nat.zero_add, Nat.reduceAdd, v0, v1, v2, v3, v4, v5, v6, v7, v8, v9, List.setIfInBounds_toArray, List.set_cons_zero, List.set_cons_succ]
      clear v0 v1 v2 v3 v4 v5 v6 v7 v8 v9
      clear HLT HCS HCU HAV HFARR HCALL HSZ HOKK HLEN HX
      rw [te_b1 id ⟨HN.out.1, HN.out.2.1⟩] at h1 h2
      have HX2 := Lib.hid h1
      have HM2 := Lib.hid h2
      have HO2 := Lib.hid (HA.out.far HB.out HNE.out h3)
      have HU2 : Hid (Upd [] w W) := HU.out.trans' h3 (fun x hx => .inr (by simp at hx; subst hx; exact HNEW.out.2))
      clear h1 h2 h3 HA HB HU
      generalize vals 11 = vy at *
      go_wp2_with fail
      go_roundg 2
      case rel => exact ⟨1, by omega, by go_num, HO2.out, HM2.out, ⟨_, HX2.out⟩, HU2.out⟩
      case measure => omega
    · skip
      obtain ⟨hsa, hsb, ⟨ox, hsx⟩, hsu⟩ := hst
      have HA := Lib.hid (show CallAt wr ca (tka1 id) from hsa)
      have HB := Lib.hid (show CallAt wr cb (tkb1 id) from hsb)
      have HX := Lib.hid (show SaysAt wr _ [(id, tl1)] ox from hsx)
      have HU := Lib.hid hsu
      clear hsa hsb hsx hsu HST
      obtain ⟨gx, fx, cx, ux, hvx, mx1, mx2, csx, cux, avx, farx⟩ := SaysAt.one_get HX.out
      obtain ⟨aox, nx, dx, rfl⟩ := avx.shape
      subst hvx
      simp only [maxLen] at mx2
      have HLT : Hid (gx < wr.heap.size) := Lib.hid (cell_lt' csx)
      have HCS := Lib.hid csx
      have HCU := Lib.hid cux
      have HAV := Lib.hid avx
      have HFARR : Hid (∀ W, Upd [ca] wr W → AvsAt W (.slice aox nx dx) (tl1)) := fun W hu => farx W ca _ HA.out hu
      have HCALL := Lib.hid HA.out
      have HSZ := Lib.hid (tl1_small)
      have HOKK := Lib.hid (tka1_ok id)
      have HLEN : Hid ((tl1).length ≤ 1000000) := by show _ ≤ _; simp [tl0, tl1, tl2]
      clear csx cux avx farx
      go_upto_region 16 with (fail)
      refine wp_region_chain [some (.pointer (some ⟨ca, 0, none⟩)), some (.slice (some ⟨gx, fx, none⟩) 1 cx), some (.pointer (some ⟨gx, fx, none⟩)), some (.pointer (some ⟨gx, fx, none⟩)), some (.int .i64 id), some (.slice (some ⟨gx, fx, none⟩) 1 cx), some (.pointer (some ⟨gx, fx, none⟩)), some (.pointer (some ⟨gx, fx + 1, none⟩)), some (.slice aox nx dx), some (.agg #[.int .i64 0, .int .i64 id, .int .i64 0, .int .i64 0, .slice aox nx dx]), none, none] [10,11] (takeS wr ca (K.take (tka1 id) (tl1))) [(0, 0), (0, 0), (0, 0), (0, 0), (0, 0), (0, 0), (0, 0), (0, 0), (0, 0), (0, 0), (0, 0), (1, 1)] (by kernel_rfl) (by kernel_rfl) (by kernel_rfl) (by kernel_rfl) (by kernel_rfl) (by kernel_rfl) ((Upd.refl [] _).drew) ?_ ?_
      · refine StepsC.cons ?_ (StepsC.cons ?_ (StepsC.cons ?_ (StepsC.cons ?_ (StepsC.cons ?_ (StepsC.cons ?_ (StepsC.cons ?_ (StepsC.cons ?_ (StepsC.cons ?_ (StepsC.cons ?_ (StepsC.cons ?_ (StepsC.cons ?_ StepsC.nil)))))))))))
        · refine chain_is _ (.inl rfl) ⟨_, rfl⟩ (by kernel_rfl) rfl ?_
          intro a W kst l0 h0 A0 hF hD
          have k0 : kst = 0 := Nat.le_antisymm h0 l0
          subst k0
          clear l0 h0
          have e15 : a.tmps[15]?.getD undef = _ := (ev a 15).symm.trans (hF 15 (by kernel_rfl))
          clear hF hD
          go_simp
        · refine chain_is _ (.inl rfl) ⟨_, rfl⟩ (by kernel_rfl) rfl ?_
          intro a W kst l0 h0 A0 hF hD
          have k0 : kst = 0 := Nat.le_antisymm h0 l0
          subst k0
          clear l0 h0
          have e13 : a.tmps[13]?.getD undef = _ := (ev a 13).symm.trans (hF 13 (by kernel_rfl))
          clear hF hD
          go_simp
        · refine chain_is _ (.inl rfl) ⟨_, rfl⟩ (by kernel_rfl) rfl ?_
          intro a W kst l0 h0 A0 hF hD
          have k0 : kst = 0 := Nat.le_antisymm h0 l0
          subst k0
          clear l0 h0
          have e97 : a.tmps[97]?.getD undef = .slice (some ⟨gx, fx, none⟩) 1 cx := (ev a 97).symm.trans (hD _ (Array.mem_of_getElem? (i := 0) rfl) rfl)
          clear hF hD
          go_simp
        · refine chain_is _ (.inl rfl) ⟨_, rfl⟩ (by kernel_rfl) rfl ?_
          intro a W kst l0 h0 A0 hF hD
          have k0 : kst = 0 := Nat.le_antisymm h0 l0
          subst k0
          clear l0 h0
          have e98 : a.tmps[98]?.getD undef = .pointer (some ⟨gx, fx, none⟩) := (ev a 98).symm.trans (hD _ (Array.mem_of_getElem? (i := 0) rfl) rfl)
          clear hF hD
          go_simp
        · refine chain_is _ (.inl rfl) ⟨_, rfl⟩ (by kernel_rfl) rfl ?_
          intro a W kst l0 h0 A0 hF hD
          have k0 : kst = 0 := Nat.le_antisymm h0 l0
          subst k0
          clear l0 h0
          have e99 : a.tmps[99]?.getD undef = .pointer (some ⟨gx, fx, none⟩) := (ev a 99).symm.trans (hD _ (Array.mem_of_getElem? (i := 0) rfl) rfl)
          clear hF hD
          have hu : Upd [] _ W := A0
          have c1 := (hu.cell (p := ⟨gx, fx, none⟩) HLT.out (by simp)).trans HCS.out
          go_simp
        · refine chain_is _ (.inl rfl) ⟨_, rfl⟩ (by kernel_rfl) rfl ?_
          intro a W kst l0 h0 A0 hF hD
          have k0 : kst = 0 := Nat.le_antisymm h0 l0
          subst k0
          clear l0 h0
          have e13 : a.tmps[13]?.getD undef = _ := (ev a 13).symm.trans (hF 13 (by kernel_rfl))
          clear hF hD
          go_simp
        · refine chain_is _ (.inl rfl) ⟨_, rfl⟩ (by kernel_rfl) rfl ?_
          intro a W kst l0 h0 A0 hF hD
          have k0 : kst = 0 := Nat.le_antisymm h0 l0
          subst k0
          clear l0 h0
          have e101 : a.tmps[101]?.getD undef = .slice (some ⟨gx, fx, none⟩) 1 cx := (ev a 101).symm.trans (hD _ (Array.mem_of_getElem? (i := 0) rfl) rfl)
          clear hF hD
          go_simp
        · refine chain_is _ (.inl rfl) ⟨_, rfl⟩ (by kernel_rfl) rfl ?_
          intro a W kst l0 h0 A0 hF hD
          have k0 : kst = 0 := Nat.le_antisymm h0 l0
          subst k0
          clear l0 h0
          have e102 : a.tmps[102]?.getD undef = .pointer (some ⟨gx, fx, none⟩) := (ev a 102).symm.trans (hD _ (Array.mem_of_getElem? (i := 0) rfl) rfl)
          clear hF hD
          go_simp
        · refine chain_is _ (.inl rfl) ⟨_, rfl⟩ (by kernel_rfl) rfl ?_
          intro a W kst l0 h0 A0 hF hD
          have k0 : kst = 0 := Nat.le_antisymm h0 l0
          subst k0
          clear l0 h0
          have e103 : a.tmps[103]?.getD undef = .pointer (some ⟨gx, fx + 1, none⟩) := (ev a 103).symm.trans (hD _ (Array.mem_of_getElem? (i := 0) rfl) rfl)
          clear hF hD
          have hu : Upd [] _ W := A0
          have c1 := (hu.cell (p := ⟨gx, fx + 1, none⟩) HLT.out (by simp)).trans HCU.out
          go_simp
        · refine chain_is _ (.inl rfl) ⟨_, rfl⟩ (by kernel_rfl) rfl ?_
          intro a W kst l0 h0 A0 hF hD
          have k0 : kst = 0 := Nat.le_antisymm h0 l0
          subst k0
          clear l0 h0
          have e100 : a.tmps[100]?.getD undef = .int .i64 id := (ev a 100).symm.trans (hD _ (Array.mem_of_getElem? (i := 0) rfl) rfl)
          have e104 : a.tmps[104]?.getD undef = .slice aox nx dx := (ev a 104).symm.trans (hD _ (Array.mem_of_getElem? (i := 1) rfl) rfl)
          clear hF hD
          go_simp
        · refine chain_call (.inl rfl) ⟨_, rfl⟩ (by kernel_rfl) ?_
          intro a W kst l0 h0 A0 hF hD
          have k0 : kst = 0 := Nat.le_antisymm h0 l0
          subst k0
          clear l0 h0
          have e96 : a.tmps[96]?.getD undef = .pointer (some ⟨ca, 0, none⟩) := (ev a 96).symm.trans (hD _ (Array.mem_of_getElem? (i := 0) rfl) rfl)
          have e105 : a.tmps[105]?.getD undef = .agg #[.int .i64 0, .int .i64 id, .int .i64 0, .int .i64 0, .slice aox nx dx] := (ev a 105).symm.trans (hD _ (Array.mem_of_getElem? (i := 1) rfl) rfl)
          clear hF hD
          have hu : Upd [] _ W := A0
          refine ⟨_, _, by (go_simp; first | done | rfl | exact ⟨rfl, rfl⟩), ?_⟩
          refine (take_any ca (tka1 id) (tl1) 0 id 0 0 _ _ (HCALL.out.upd hu) (HAV.out.upd hu) HSZ.out HOKK.out HLEN.out (fun W2 hw => HFARR.out _ ((hu.mono (by simp)).trans hw))).mono ?_
          rintro e w3 ⟨v3, own3, rfl, h1, h2, h3⟩
          exact ⟨_, rfl, trivial, own3, h1, h2, (hu.mono (by simp)).trans h3⟩
        · refine chain_run (.inl rfl) ⟨_, rfl⟩ (by kernel_rfl) ?_
          intro a W kst l0 h0 A0 hF hD
          have k0 : kst = 1 := Nat.le_antisymm h0 l0
          subst k0
          clear l0 h0
          clear hF hD
          obtain ⟨own1, h1, h2, h3⟩ := A0
          exact ⟨_, W, by (go_simp; first | done | rfl | exact ⟨rfl, rfl⟩), trivial, own1, by rw [← ev]; exact h1, h2, h3⟩
      intro vals W hv hA
      have v0 : vals 0 = .pointer (some ⟨ca, 0, none⟩) := hv 0 (by decide)
      have v1 : vals 1 = .slice (some ⟨gx, fx, none⟩) 1 cx := hv 1 (by decide)
      have v2 : vals 2 = .pointer (some ⟨gx, fx, none⟩) := hv 2 (by decide)
      have v3 : vals 3 = .pointer (some ⟨gx, fx, none⟩) := hv 3 (by decide)
      have v4 : vals 4 = .int .i64 id := hv 4 (by decide)
      have v5 : vals 5 = .slice (some ⟨gx, fx, none⟩) 1 cx := hv 5 (by decide)
      have v6 : vals 6 = .pointer (some ⟨gx, fx, none⟩) := hv 6 (by decide)
      have v7 : vals 7 = .pointer (some ⟨gx, fx + 1, none⟩) := hv 7 (by decide)
      have v8 : vals 8 = .slice aox nx dx := hv 8 (by decide)
      have v9 : vals 9 = .agg #[.int .i64 0, .int .i64 id, .int .i64 0, .int .i64 0, .slice aox nx dx] := hv 9 (by decide)
      clear hv
      obtain ⟨own1, h1, h2, h3⟩ := hA
      simp only [putAll, Act.put, Nat.zero_add, Nat.reduceAdd, v0, v1, v2, v3, v4, v5, v6, v7, v8, v9, List.setIfInBounds_toArray, List.set_cons_zero, List.set_cons_succ]
      clear v0 v1 v2 v3 v4 v5 v6 v7 v8 v9
      clear HLT HCS HCU HAV HFARR HCALL HSZ HOKK HLEN HX
      rw [te_a2] at h1 h2
      have HX2 := Lib.hid h1
      have HM2 := Lib.hid h2
      have HO2 := Lib.hid (HB.out.far HA.out HNE.out.symm h3)
      have HU2 : Hid (Upd [] w W) := HU.out.trans' h3 (fun x hx => .inr (by simp at hx; subst hx; exact HNEW.out.1))
      clear h1 h2 h3 HA HB HU
      generalize vals 11 = vy at *
      go_wp2_with fail
      go_roundg 1
      case rel => exact ⟨2, by omega, by go_num, HM2.out, HO2.out, ⟨_, HX2.out⟩, HU2.out⟩
      case measure => omega
    · skip
      obtain ⟨hsa, hsb, ⟨ox, hsx⟩, hsu⟩ := hst
      have HA := Lib.hid (show CallAt wr ca (tka2 id) from hsa)
      have HB := Lib.hid (show CallAt wr cb (tkb1 id) from hsb)
      have HX := Lib.hid (show SaysAt wr _ [(9, tl2)] ox from hsx)
      have HU := Lib.hid hsu
      clear hsa hsb hsx hsu HST
      obtain ⟨gx, fx, cx, ux, hvx, mx1, mx2, csx, cux, avx, farx⟩ := SaysAt.one_get HX.out
      obtain ⟨aox, nx, dx, rfl⟩ := avx.shape
      subst hvx
      simp only [maxLen] at mx2
      have HLT : Hid (gx < wr.heap.size) := Lib.hid (cell_lt' csx)
      have HCS := Lib.hid csx
      have HCU := Lib.hid cux
      have HAV := Lib.hid avx
      have HFARR : Hid (∀ W, Upd [cb] wr W → AvsAt W (.slice aox nx dx) (tl2)) := fun W hu => farx W cb _ HB.out hu
      have HCALL := Lib.hid HB.out
      have HSZ := Lib.hid (tl2_small)
      have HOKK := Lib.hid (tkb1_ok id)
      have HLEN : Hid ((tl2).length ≤ 1000000) := by show _ ≤ _; simp [tl0, tl1, tl2]
      clear csx cux avx farx
      go_upto_region 16 with (fail)
      refine wp_region_chain [some (.pointer (some ⟨cb, 0, none⟩)), some (.slice (some ⟨gx, fx, none⟩) 1 cx), some (.pointer (some ⟨gx, fx, none⟩)), some (.pointer (some ⟨gx, fx, none⟩)), some (.int .i64 9), some (.slice (some ⟨gx, fx, none⟩) 1 cx), some (.pointer (some ⟨gx, fx, none⟩)), some (.pointer (some ⟨gx, fx + 1, none⟩)), some (.slice aox nx dx), some (.agg #[.int .i64 0, .int .i64 9, .int .i64 0, .int .i64 0, .slice aox nx dx]), none, none] [10,11] (takeS wr cb (K.take (tkb1 id) (tl2))) [(0, 0), (0, 0), (0, 0), (0, 0), (0, 0), (0, 0), (0, 0), (0, 0), (0, 0), (0, 0), (0, 0), (1, 1)] (by kernel_rfl) (by kernel_rfl) (by kernel_rfl) (by kernel_rfl) (by kernel_rfl) (by kernel_rfl) ((Upd.refl [] _).drew) ?_ ?_
      · refine StepsC.cons ?_ (StepsC.cons ?_ (StepsC.cons ?_ (StepsC.cons ?_ (StepsC.cons ?_ (StepsC.cons ?_ (StepsC.cons ?_ (StepsC.cons ?_ (StepsC.cons ?_ (StepsC.cons ?_ (StepsC.cons ?_ (StepsC.cons ?_ StepsC.nil)))))))))))
        · refine chain_is _ (.inl rfl) ⟨_, rfl⟩ (by kernel_rfl) rfl ?_
          intro a W kst l0 h0 A0 hF hD
          have k0 : kst = 0 := Nat.le_antisymm h0 l0
          subst k0
          clear l0 h0
          have e15 : a.tmps[15]?.getD undef = _ := (ev a 15).symm.trans (hF 15 (by kernel_rfl))
          clear hF hD
          go_simp
        · refine chain_is _ (.inl rfl) ⟨_, rfl⟩ (by kernel_rfl) rfl ?_
          intro a W kst l0 h0 A0 hF hD
          have k0 : kst = 0 := Nat.le_antisymm h0 l0
          subst k0
          clear l0 h0
          have e13 : a.tmps[13]?.getD undef = _ := (ev a 13).symm.trans (hF 13 (by kernel_rfl))
          clear hF hD
          go_simp
        · refine chain_is _ (.inl rfl) ⟨_, rfl⟩ (by kernel_rfl) rfl ?_
          intro a W kst l0 h0 A0 hF hD
          have k0 : kst = 0 := Nat.le_antisymm h0 l0
          subst k0
          clear l0 h0
          have e97 : a.tmps[97]?.getD undef = .slice (some ⟨gx, fx, none⟩) 1 cx := (ev a 97).symm.trans (hD _ (Array.mem_of_getElem? (i := 0) rfl) rfl)
          clear hF hD
          go_simp
        · refine chain_is _ (.inl rfl) ⟨_, rfl⟩ (by kernel_rfl) rfl ?_
          intro a W kst l0 h0 A0 hF hD
          have k0 : kst = 0 := Nat.le_antisymm h0 l0
          subst k0
          clear l0 h0
          have e98 : a.tmps[98]?.getD undef = .pointer (some ⟨gx, fx, none⟩) := (ev a 98).symm.trans (hD _ (Array.mem_of_getElem? (i := 0) rfl) rfl)
          clear hF hD
          go_simp
        · refine chain_is _ (.inl rfl) ⟨_, rfl⟩ (by kernel_rfl) rfl ?_
          intro a W kst l0 h0 A0 hF hD
          have k0 : kst = 0 := Nat.le_antisymm h0 l0
          subst k0
          clear l0 h0
          have e99 : a.tmps[99]?.getD undef = .pointer (some ⟨gx, fx, none⟩) := (ev a 99).symm.trans (hD _ (Array.mem_of_getElem? (i := 0) rfl) rfl)
          clear hF hD
          have hu : Upd [] _ W := A0
          have c1 := (hu.cell (p := ⟨gx, fx, none⟩) HLT.out (by simp)).trans HCS.out
          go_simp
        · refine chain_is _ (.inl rfl) ⟨_, rfl⟩ (by kernel_rfl) rfl ?_
          intro a W kst l0 h0 A0 hF hD
          have k0 : kst = 0 := Nat.le_antisymm h0 l0
          subst k0
          clear l0 h0
          have e13 : a.tmps[13]?.getD undef = _ := (ev a 13).symm.trans (hF 13 (by kernel_rfl))
          clear hF hD
          go_simp
        · refine chain_is _ (.inl rfl) ⟨_, rfl⟩ (by kernel_rfl) rfl ?_
          intro a W kst l0 h0 A0 hF hD
          have k0 : kst = 0 := Nat.le_antisymm h0 l0
          subst k0
          clear l0 h0
          have e101 : a.tmps[101]?.getD undef = .slice (some ⟨gx, fx, none⟩) 1 cx := (ev a 101).symm.trans (hD _ (Array.mem_of_getElem? (i := 0) rfl) rfl)
          clear hF hD
          go_simp
        · refine chain_is _ (.inl rfl) ⟨_, rfl⟩ (by kernel_rfl) rfl ?_
          intro a W kst l0 h0 A0 hF hD
          have k0 : kst = 0 := Nat.le_antisymm h0 l0
          subst k0
          clear l0 h0
          have e102 : a.tmps[102]?.getD undef = .pointer (some ⟨gx, fx, none⟩) := (ev a 102).symm.trans (hD _ (Array.mem_of_getElem? (i := 0) rfl) rfl)
          clear hF hD
          go_simp
        · refine chain_is _ (.inl rfl) ⟨_, rfl⟩ (by kernel_rfl) rfl ?_
          intro a W kst l0 h0 A0 hF hD
          have k0 : kst = 0 := Nat.le_antisymm h0 l0
          subst k0
          clear l0 h0
          have e103 : a.tmps[103]?.getD undef = .pointer (some ⟨gx, fx + 1, none⟩) := (ev a 103).symm.trans (hD _ (Array.mem_of_getElem? (i := 0) rfl) rfl)
          clear hF hD
          have hu : Upd [] _ W := A0
          have c1 := (hu.cell (p := ⟨gx, fx + 1, none⟩) HLT.out (by simp)).trans HCU.out
          go_simp
        · refine chain_is _ (.inl rfl) ⟨_, rfl⟩ (by kernel_rfl) rfl ?_
          intro a W kst l0 h0 A0 hF hD
          have k0 : kst = 0 := Nat.le_antisymm h0 l0
          subst k0
          clear l0 h0
          have e100 : a.tmps[100]?.getD undef = .int .i64 9 := (ev a 100).symm.trans (hD _ (Array.mem_of_getElem? (i := 0) rfl) rfl)
          have e104 : a.tmps[104]?.getD undef = .slice aox nx dx := (ev a 104).symm.trans (hD _ (Array.mem_of_getElem? (i := 1) rfl) rfl)
          clear hF hD
          go_simp
        · refine chain_call (.inl rfl) ⟨_, rfl⟩ (by kernel_rfl) ?_
          intro a W kst l0 h0 A0 hF hD
          have k0 : kst = 0 := Nat.le_antisymm h0 l0
          subst k0
          clear l0 h0
          have e96 : a.tmps[96]?.getD undef = .pointer (some ⟨cb, 0, none⟩) := (ev a 96).symm.trans (hD _ (Array.mem_of_getElem? (i := 0) rfl) rfl)
          have e105 : a.tmps[105]?.getD undef = .agg #[.int .i64 0, .int .i64 9, .int .i64 0, .int .i64 0, .slice aox nx dx] := (ev a 105).symm.trans (hD _ (Array.mem_of_getElem? (i := 1) rfl) rfl)
          clear hF hD
          have hu : Upd [] _ W := A0
          refine ⟨_, _, by (go_simp; first | done | rfl | exact ⟨rfl, rfl⟩), ?_⟩
          refine (take_any cb (tkb1 id) (tl2) 0 9 0 0 _ _ (HCALL.out.upd hu) (HAV.out.upd hu) HSZ.out HOKK.out HLEN.out (fun W2 hw => HFARR.out _ ((hu.mono (by simp)).trans hw))).mono ?_
          rintro e w3 ⟨v3, own3, rfl, h1, h2, h3⟩
          exact ⟨_, rfl, trivial, own3, h1, h2, (hu.mono (by simp)).trans h3⟩
        · refine chain_run (.inl rfl) ⟨_, rfl⟩ (by kernel_rfl) ?_
          intro a W kst l0 h0 A0 hF hD
          have k0 : kst = 1 := Nat.le_antisymm h0 l0
          subst k0
          clear l0 h0
          clear hF hD
          obtain ⟨own1, h1, h2, h3⟩ := A0
          exact ⟨_, W, by (go_simp; first | done | rfl | exact ⟨rfl, rfl⟩), trivial, own1, by rw [← ev]; exact h1, h2, h3⟩
      intro vals W hv hA
      have v0 : vals 0 = .pointer (some ⟨cb, 0, none⟩) := hv 0 (by decide)
      have v1 : vals 1 = .slice (some ⟨gx, fx, none⟩) 1 cx := hv 1 (by decide)
      have v2 : vals 2 = .pointer (some ⟨gx, fx, none⟩) := hv 2 (by decide)
      have v3 : vals 3 = .pointer (some ⟨gx, fx, none⟩) := hv 3 (by decide)
      have v4 : vals 4 = .int .i64 9 := hv 4 (by decide)
      have v5 : vals 5 = .slice (some ⟨gx, fx, none⟩) 1 cx := hv 5 (by decide)
      have v6 : vals 6 = .pointer (some ⟨gx, fx, none⟩) := hv 6 (by decide)
      have v7 : vals 7 = .pointer (some ⟨gx, fx + 1, none⟩) := hv 7 (by decide)
      have v8 : vals 8 = .slice aox nx dx := hv 8 (by decide)
      have v9 : vals 9 = .agg #[.int .i64 0, .int .i64 9, .int .i64 0, .int .i64 0, .slice aox nx dx] := hv 9 (by decide)
      clear hv
      obtain ⟨own1, h1, h2, h3⟩ := hA
      simp only [putAll, Act.put, Nat.zero_add, Nat.reduceAdd, v0, v1, v2, v3, v4, v5, v6, v7, v8, v9, List.setIfInBounds_toArray, List.set_cons_zero, List.set_cons_succ]
      clear v0 v1 v2 v3 v4 v5 v6 v7 v8 v9
      clear HLT HCS HCU HAV HFARR HCALL HSZ HOKK HLEN HX
      rw [te_b2] at h1 h2
      have HX2 := Lib.hid h1
      have HM2 := Lib.hid h2
      have HO2 := Lib.hid (HA.out.far HB.out HNE.out h3)
      have HU2 : Hid (Upd [] w W) := HU.out.trans' h3 (fun x hx => .inr (by simp at hx; subst hx; exact HNEW.out.2))
      clear h1 h2 h3 HA HB HU
      generalize vals 11 = vy at *
      go_wp2_with fail
      go_roundg 0
      case rel => exact ⟨3, by omega, by go_num, HO2.out, HM2.out, ⟨_, HX2.out⟩, HU2.out⟩
      case measure => omega
    · skip
      obtain ⟨hsa, hsb, -, hsu⟩ := hst
      have HA := Lib.hid (show CallAt wr ca (tka2 id) from hsa)
      have HB := Lib.hid (show CallAt wr cb (tkb2 id 0 0) from hsb)
      have HU := Lib.hid hsu
      clear hsa hsb hsu HST HS5
      go_wp2_with fail
      go_loopg [16] (n + m) (fun q s16 wz => ∃ k : Nat, k + q = n + m ∧ s16 = .int .i64 k ∧ TeS2 w wz ca cb (tka2 id) (tkb2 id (min k n : Nat) (k - n : Nat)))
      case atStart => exact ⟨0, by omega, rfl, HA.out, by simpa using HB.out, HU.out⟩
      case round =>
        obtain ⟨k, hk, rfl, hst⟩ := hrel
        obtain ⟨hsa, hsb, hsu⟩ := hst
        have HA1 := Lib.hid hsa
        have HB1 := Lib.hid hsb
        have HU1 := Lib.hid hsu
        clear hsa hsb hsu HA HB HU
        by_cases t : k < n + m
        · have HKN := Lib.hid (And.intro hk t)
          go_wp2_with fail
          refine (errors_any ca _ text _ HA1.out rfl HT.out).mono ?_
          rintro e w6 ⟨v6, o6, rfl, q1, q2⟩
          rw [te_tell id 15 34 text HN.out.2.2.2.2] at q1
          have HA2 := Lib.hid (HA1.out.upd q2)
          have HB2 := Lib.hid (HB1.out.upd q2)
          have HU2 := Lib.hid (HU1.out.trans q2)
          clear q2 HA1 HB1 HU1
          by_cases t2 : k < n
          · obtain ⟨gx, fx, cx, ux, hvx, mx1, mx2, csx, cux, avx, farx⟩ := SaysAt.one_get q1
            obtain ⟨aox, nx, dx, rfl⟩ := avx.shape
            subst hvx
            simp only [maxLen] at mx2
            have HQ := Lib.hid (And.intro avx (fun W hu => farx W cb _ HB2.out hu))
            clear farx avx q1
            go_wp2_with fail
            refine (take_any cb _ (teT 15 34 text) 0 9 0 0 _ _ HB2.out HQ.out.1 (teT_small _ _ _ HT.out) (tkb2_ok _ _ _ (by have := HKN.out; have := HN.out.2.2; omega) (by have := HKN.out; have := HN.out.2.2; omega)) (by show _ ≤ _; simp [teT]) (fun W hu => HQ.out.2 W hu)).mono ?_
            rintro e w7 ⟨v7, o7, rfl, h1, h2, h3⟩
            rw [te_wen id _ _ text (by have := HKN.out; have := HN.out.2.2; omega)] at h2
            have HA3 := Lib.hid (HA2.out.far HB2.out HNE.out h3)
            have HB3 := Lib.hid h2
            have HU3 : Hid (Upd [] w w7) := HU2.out.trans' h3 (fun x hx => .inr (by simp at hx; subst hx; exact HNEW.out.2))
            clear h1 h2 h3 HA2 HB2 HU2 HQ
            go_wp2_with fail
            go_roundg (n + m - (k + 1))
            case rel =>
              refine ⟨k + 1, by omega, by go_num, HA3.out, ?_, HU3.out⟩
              have hb := HB3.out
              rwa [show ((min k n : Nat) : Int) + 1 = ((min (k + 1) n : Nat) : Int) by omega, show k - n = k + 1 - n by omega] at hb
            case measure => omega
          · obtain ⟨ao6, cap6, rfl, e3, e4⟩ := q1.shape
            clear q1
            simp only [List.length_cons, List.length_nil, Nat.zero_add] at e3 ⊢
            simp only [maxLen] at e4
            go_wp2_with fail
            refine (map_any ca _ text _ HA2.out rfl HT.out).mono ?_
            rintro e w8 ⟨v8, o8, rfl, q1, q2⟩
            rw [te_tell id 16 35 text HN.out.2.2.2.2] at q1
            have HA2 := Lib.hid (HA2.out.upd q2)
            have HB2 := Lib.hid (HB2.out.upd q2)
            have HU2 := Lib.hid (HU2.out.trans q2)
            clear q2
            obtain ⟨gx, fx, cx, ux, hvx, mx1, mx2, csx, cux, avx, farx⟩ := SaysAt.one_get q1
            obtain ⟨aox, nx, dx, rfl⟩ := avx.shape
            subst hvx
            simp only [maxLen] at mx2
            have HQ := Lib.hid (And.intro avx (fun W hu => farx W cb _ HB2.out hu))
            clear farx avx q1
            go_wp2_with fail
            refine (take_any cb _ (teT 16 35 text) 0 9 0 0 _ _ HB2.out HQ.out.1 (teT_small _ _ _ HT.out) (tkb2_ok _ _ _ (by have := HKN.out; have := HN.out.2.2; omega) (by have := HKN.out; have := HN.out.2.2; omega)) (by show _ ≤ _; simp [teT]) (fun W hu => HQ.out.2 W hu)).mono ?_
            rintro e w7 ⟨v7, o7, rfl, h1, h2, h3⟩
            rw [te_sli id _ _ text (by have := HKN.out; have := HN.out.2.2; omega)] at h2
            have HA3 := Lib.hid (HA2.out.far HB2.out HNE.out h3)
            have HB3 := Lib.hid h2
            have HU3 : Hid (Upd [] w w7) := HU2.out.trans' h3 (fun x hx => .inr (by simp at hx; subst hx; exact HNEW.out.2))
            clear h1 h2 h3 HA2 HB2 HU2 HQ
            go_wp2_with fail
            go_roundg (n + m - (k + 1))
            case rel =>
              refine ⟨k + 1, by omega, by go_num, HA3.out, ?_, HU3.out⟩
              have hb := HB3.out
              rwa [show min k n = min (k + 1) n by omega, show ((k - n : Nat) : Int) + 1 = ((k + 1 - n : Nat) : Int) by omega] at hb
            case measure => omega
        · obtain rfl : k = n + m := by omega
          rw [show min (n + m) n = n by omega, show n + m - n = m by omega] at HB1
          go_wp2_with fail
          refine (heard_any cb _ _ HB1.out rfl).mono ?_
          rintro e w6 ⟨rfl, q2⟩
          simp only [tkb2]
          have HB2 := Lib.hid (HB1.out.upd q2)
          have HU2 := Lib.hid (HU1.out.trans q2)
          clear q2 HA1 HB1 HU1
          go_wp2_with fail
          refine (alive_any _).mono ?_
          rintro e w7 ⟨rfl, q2⟩
          have HB3 := Lib.hid (HB2.out.upd q2)
          have HU3 := Lib.hid (HU2.out.trans q2)
          clear q2 HB2 HU2
          go_wp2_with fail
          refine (state_any cb _ _ HB3.out rfl).mono ?_
          rintro e w8 ⟨rfl, rfl⟩
          simp only [tkb2]
          go_wp2_with fail
          go_ret
          exact ⟨rfl, HU3.out⟩
set_option maxHeartbeats 8000000 in
theorem callTells_out (id n m : Int) (text : ByteArray) (ht : text.size ≤ maxLen) (h : ¬ (1 ≤ id ∧ id ≤ 65535 ∧ 0 ≤ n ∧ n ≤ 20 ∧ 0 ≤ m ∧ m ≤ 20 ∧ text.size ≤ 1000)) (w : World) :
    Calls Try.prog 5 #[.int .i64 id, .int .i64 n, .int .i64 m, .string text] w fun e w' => e = .returned (.bool true) ∧ Upd [] w w' := by
  simp only [maxLen] at ht
  have hc : id < 1 ∨ (1 ≤ id ∧ 65535 < id) ∨ (1 ≤ id ∧ id ≤ 65535 ∧ n < 0) ∨ (1 ≤ id ∧ id ≤ 65535 ∧ 0 ≤ n ∧ 20 < n) ∨ (1 ≤ id ∧ id ≤ 65535 ∧ 0 ≤ n ∧ n ≤ 20 ∧ m < 0) ∨ (1 ≤ id ∧ id ≤ 65535 ∧ 0 ≤ n ∧ n ≤ 20 ∧ 0 ≤ m ∧ 20 < m) ∨ (1 ≤ id ∧ id ≤ 65535 ∧ 0 ≤ n ∧ n ≤ 20 ∧ 0 ≤ m ∧ m ≤ 20 ∧ 1000 < text.size) := by omega
  clear h
  rcases hc with h | ⟨a1, h⟩ | ⟨a1, a2, h⟩ | ⟨a1, a2, a3, h⟩ | ⟨a1, a2, a3, a4, h⟩ | ⟨a1, a2, a3, a4, a5, h⟩ | ⟨a1, a2, a3, a4, a5, a6, h⟩
  · go_enter Try.func5, Try.ntmps5
    go_wp2_with fail
    refine (alive_any w).mono ?_
    rintro e w1 ⟨rfl, u1⟩
    go_wp2_with fail
    go_ret
    exact ⟨rfl, u1⟩
  · go_enter Try.func5, Try.ntmps5
    go_wp2_with fail
    refine (alive_any w).mono ?_
    rintro e w1 ⟨rfl, u1⟩
    go_wp2_with fail
    go_ret
    exact ⟨rfl, u1⟩
  · go_enter Try.func5, Try.ntmps5
    go_wp2_with fail
    refine (alive_any w).mono ?_
    rintro e w1 ⟨rfl, u1⟩
    go_wp2_with fail
    go_ret
    exact ⟨rfl, u1⟩
  · go_enter Try.func5, Try.ntmps5
    go_wp2_with fail
    refine (alive_any w).mono ?_
    rintro e w1 ⟨rfl, u1⟩
    go_wp2_with fail
    go_ret
    exact ⟨rfl, u1⟩
  · go_enter Try.func5, Try.ntmps5
    go_wp2_with fail
    refine (alive_any w).mono ?_
    rintro e w1 ⟨rfl, u1⟩
    go_wp2_with fail
    go_ret
    exact ⟨rfl, u1⟩
  · go_enter Try.func5, Try.ntmps5
    go_wp2_with fail
    refine (alive_any w).mono ?_
    rintro e w1 ⟨rfl, u1⟩
    go_wp2_with fail
    go_ret
    exact ⟨rfl, u1⟩
  · go_enter Try.func5, Try.ntmps5
    go_wp2_with fail
    refine (alive_any w).mono ?_
    rintro e w1 ⟨rfl, u1⟩
    go_wp2_with fail
    go_ret
    exact ⟨rfl, u1⟩
theorem callTells_walk (id : Int) (_ : (Lit.int .i64 id).wf = true) (n : Int) (_ : (Lit.int .i64 n).wf = true) (m : Int) (_ : (Lit.int .i64 m).wf = true) (text : ByteArray) (ht : text.size ≤ maxLen) (w : World) :
    Calls Try.prog 5 #[.int .i64 id, .int .i64 n, .int .i64 m, .string text] w fun e w' => e = .returned (.bool true) ∧ Below w.heap.size w w' := by
  refine Calls.mono (R := fun e w' => e = .returned (.bool true) ∧ Upd [] w w') ?_ fun e w' ⟨he, hu⟩ => ⟨he, hu.below⟩
  by_cases h : 1 ≤ id ∧ id ≤ 65535 ∧ 0 ≤ n ∧ n ≤ 20 ∧ 0 ≤ m ∧ m ≤ 20 ∧ text.size ≤ 1000
  · obtain ⟨h1, h2, h3, h4, h5, h6, h7⟩ := h
    obtain ⟨a, rfl⟩ := Int.eq_ofNat_of_zero_le h3
    obtain ⟨b, rfl⟩ := Int.eq_ofNat_of_zero_le h5
    exact callTells_in id a b text h1 h2 (by omega) (by omega) h7 w
  · exact callTells_out id n m text ht h w
end Go.Proofs.Ytihedbaomingpaa
