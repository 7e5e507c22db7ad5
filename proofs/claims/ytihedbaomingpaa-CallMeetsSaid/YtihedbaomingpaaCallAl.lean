/- The walk of chapter 22's alive. -/
import Derived.Test.YtihedbaomingpaaCallI
namespace Go.Proofs.Ytihedbaomingpaa
open Go.RowKit
set_option linter.unusedSimpArgs false
set_option linter.unusedVariables false
set_option maxRecDepth 100000

set_option maxHeartbeats 4000000 in
theorem alive_any (w : World) : Calls Try.prog 8 #[] w fun e w' => e = .returned (.bool true) ∧ Upd [] w w' := by
  go_enter Try.func8, Try.ntmps8
  go_wp2_with fail
  refine (new_call 5 1 false w (by omega) (by omega)).mono ?_
  rintro e w1 ⟨rfl, ha, u1⟩
  go_wp2_with fail
  refine (new_call 9 1 false w1 (by omega) (by omega)).mono ?_
  rintro e w2 ⟨rfl, hb, u2⟩
  have hne : w.heap.size ≠ w1.heap.size := by have := ha.lt; omega
  obtain ⟨ca, ha0⟩ : ∃ x, x = w.heap.size := ⟨_, rfl⟩
  obtain ⟨cb, hb0⟩ : ∃ x, x = w1.heap.size := ⟨_, rfl⟩
  have HNEW : Hid (w.heap.size ≤ ca ∧ w.heap.size ≤ cb) := by have := u1.size; exact ⟨by omega, by omega⟩
  rw [← ha0] at ha hne
  rw [← hb0] at hb hne
  rw [← ha0, ← hb0]
  have HA := Lib.hid (ha.upd u2)
  have HB := Lib.hid hb
  have HNE := Lib.hid hne
  have HU := Lib.hid (u1.trans u2)
  clear ha hb ha0 hb0 hne u1 u2
  go_wp2_with fail
  refine (open_any ca (K.new 5 1 false) _ HA.out rfl).mono ?_
  rintro e w3 ⟨vx, ox, rfl, h1, h2, h3⟩
  rw [al_open] at h1
  have HB3 := Lib.hid (HB.out.far HA.out HNE.out.symm h3)
  have HA3 : Hid (CallAt w3 ca ka1) := h2
  have HU3 : Hid (Upd [] w w3) := HU.out.trans' h3 (fun x hx => .inr (by simp at hx; subst hx; exact HNEW.out.1))
  have HX3 := Lib.hid h1
  obtain ⟨gx, fx, cx, ux, hvx, mx1, mx2, csx, cux, avx, farx⟩ := SaysAt.one_get HX3.out
  obtain ⟨aox, nx, dx, rfl⟩ := avx.shape
  subst hvx
  simp only [maxLen] at mx2
  have HLT : Hid (gx < w3.heap.size) := Lib.hid (cell_lt' csx)
  have HCS := Lib.hid csx
  have HCU := Lib.hid cux
  have HAV := Lib.hid avx
  have HFARR : Hid (∀ W, Upd [cb] w3 W → AvsAt W (.slice aox nx dx) al0) := fun W hu => farx W cb _ HB3.out hu
  have HCALL := Lib.hid HB3.out
  have HSZ := Lib.hid al0_small
  have HOKK := Lib.hid (K.new_ok 9 1 false)
  have HLEN : Hid (al0.length ≤ 1000000) := by show _ ≤ _; decide
  clear h1 h2 h3 csx cux avx farx HA HB HU
  go_upto_region 8 with (fail)
  refine wp_region_chain [some (.pointer (some ⟨cb, 0, none⟩)), some (.slice (some ⟨gx, fx, none⟩) 1 cx), some (.pointer (some ⟨gx, fx, none⟩)), some (.pointer (some ⟨gx, fx, none⟩)), some (.int .i64 0), some (.slice (some ⟨gx, fx, none⟩) 1 cx), some (.pointer (some ⟨gx, fx, none⟩)), some (.pointer (some ⟨gx, fx + 1, none⟩)), some (.slice aox nx dx), some (.agg #[.int .i64 0, .int .i64 0, .int .i64 0, .int .i64 0, .slice aox nx dx]), none, none] [10,11] (takeS w3 cb (K.take (K.new 9 1 false) al0)) [(0, 0), (0, 0), (0, 0), (0, 0), (0, 0), (0, 0), (0, 0), (0, 0), (0, 0), (0, 0), (0, 0), (1, 1)] (by kernel_rfl) (by kernel_rfl) (by kernel_rfl) (by kernel_rfl) (by kernel_rfl) (by kernel_rfl) ((Upd.refl [] _).drew) ?_ ?_
  · refine StepsC.cons ?_ (StepsC.cons ?_ (StepsC.cons ?_ (StepsC.cons ?_ (StepsC.cons ?_ (StepsC.cons ?_ (StepsC.cons ?_ (StepsC.cons ?_ (StepsC.cons ?_ (StepsC.cons ?_ (StepsC.cons ?_ (StepsC.cons ?_ StepsC.nil)))))))))))
    · refine chain_is _ (.inl rfl) ⟨_, rfl⟩ (by kernel_rfl) rfl ?_
      intro a W kst l0 h0 A0 hF hD
      have k0 : kst = 0 := Nat.le_antisymm h0 l0
      subst k0
      clear l0 h0
      have e3 : a.tmps[3]?.getD undef = _ := (ev a 3).symm.trans (hF 3 (by kernel_rfl))
      clear hF hD
      go_simp
    · refine chain_is _ (.inl rfl) ⟨_, rfl⟩ (by kernel_rfl) rfl ?_
      intro a W kst l0 h0 A0 hF hD
      have k0 : kst = 0 := Nat.le_antisymm h0 l0
      subst k0
      clear l0 h0
      have e5 : a.tmps[5]?.getD undef = _ := (ev a 5).symm.trans (hF 5 (by kernel_rfl))
      clear hF hD
      go_simp
    · refine chain_is _ (.inl rfl) ⟨_, rfl⟩ (by kernel_rfl) rfl ?_
      intro a W kst l0 h0 A0 hF hD
      have k0 : kst = 0 := Nat.le_antisymm h0 l0
      subst k0
      clear l0 h0
      have e40 : a.tmps[40]?.getD undef = .slice (some ⟨gx, fx, none⟩) 1 cx := (ev a 40).symm.trans (hD _ (Array.mem_of_getElem? (i := 0) rfl) rfl)
      clear hF hD
      go_simp
    · refine chain_is _ (.inl rfl) ⟨_, rfl⟩ (by kernel_rfl) rfl ?_
      intro a W kst l0 h0 A0 hF hD
      have k0 : kst = 0 := Nat.le_antisymm h0 l0
      subst k0
      clear l0 h0
      have e41 : a.tmps[41]?.getD undef = .pointer (some ⟨gx, fx, none⟩) := (ev a 41).symm.trans (hD _ (Array.mem_of_getElem? (i := 0) rfl) rfl)
      clear hF hD
      go_simp
    · refine chain_is _ (.inl rfl) ⟨_, rfl⟩ (by kernel_rfl) rfl ?_
      intro a W kst l0 h0 A0 hF hD
      have k0 : kst = 0 := Nat.le_antisymm h0 l0
      subst k0
      clear l0 h0
      have e42 : a.tmps[42]?.getD undef = .pointer (some ⟨gx, fx, none⟩) := (ev a 42).symm.trans (hD _ (Array.mem_of_getElem? (i := 0) rfl) rfl)
      clear hF hD
      have hu : Upd [] _ W := A0
      have c1 := (hu.cell (p := ⟨gx, fx, none⟩) HLT.out (by simp)).trans HCS.out
      go_simp
    · refine chain_is _ (.inl rfl) ⟨_, rfl⟩ (by kernel_rfl) rfl ?_
      intro a W kst l0 h0 A0 hF hD
      have k0 : kst = 0 := Nat.le_antisymm h0 l0
      subst k0
      clear l0 h0
      have e5 : a.tmps[5]?.getD undef = _ := (ev a 5).symm.trans (hF 5 (by kernel_rfl))
      clear hF hD
      go_simp
    · refine chain_is _ (.inl rfl) ⟨_, rfl⟩ (by kernel_rfl) rfl ?_
      intro a W kst l0 h0 A0 hF hD
      have k0 : kst = 0 := Nat.le_antisymm h0 l0
      subst k0
      clear l0 h0
      have e44 : a.tmps[44]?.getD undef = .slice (some ⟨gx, fx, none⟩) 1 cx := (ev a 44).symm.trans (hD _ (Array.mem_of_getElem? (i := 0) rfl) rfl)
      clear hF hD
      go_simp
    · refine chain_is _ (.inl rfl) ⟨_, rfl⟩ (by kernel_rfl) rfl ?_
      intro a W kst l0 h0 A0 hF hD
      have k0 : kst = 0 := Nat.le_antisymm h0 l0
      subst k0
      clear l0 h0
      have e45 : a.tmps[45]?.getD undef = .pointer (some ⟨gx, fx, none⟩) := (ev a 45).symm.trans (hD _ (Array.mem_of_getElem? (i := 0) rfl) rfl)
      clear hF hD
      go_simp
    · refine chain_is _ (.inl rfl) ⟨_, rfl⟩ (by kernel_rfl) rfl ?_
      intro a W kst l0 h0 A0 hF hD
      have k0 : kst = 0 := Nat.le_antisymm h0 l0
      subst k0
      clear l0 h0
      have e46 : a.tmps[46]?.getD undef = .pointer (some ⟨gx, fx + 1, none⟩) := (ev a 46).symm.trans (hD _ (Array.mem_of_getElem? (i := 0) rfl) rfl)
      clear hF hD
      have hu : Upd [] _ W := A0
      have c1 := (hu.cell (p := ⟨gx, fx + 1, none⟩) HLT.out (by simp)).trans HCU.out
      go_simp
    · refine chain_is _ (.inl rfl) ⟨_, rfl⟩ (by kernel_rfl) rfl ?_
      intro a W kst l0 h0 A0 hF hD
      have k0 : kst = 0 := Nat.le_antisymm h0 l0
      subst k0
      clear l0 h0
      have e43 : a.tmps[43]?.getD undef = .int .i64 0 := (ev a 43).symm.trans (hD _ (Array.mem_of_getElem? (i := 0) rfl) rfl)
      have e47 : a.tmps[47]?.getD undef = .slice aox nx dx := (ev a 47).symm.trans (hD _ (Array.mem_of_getElem? (i := 1) rfl) rfl)
      clear hF hD
      go_simp
    · refine chain_call (.inl rfl) ⟨_, rfl⟩ (by kernel_rfl) ?_
      intro a W kst l0 h0 A0 hF hD
      have k0 : kst = 0 := Nat.le_antisymm h0 l0
      subst k0
      clear l0 h0
      have e39 : a.tmps[39]?.getD undef = .pointer (some ⟨cb, 0, none⟩) := (ev a 39).symm.trans (hD _ (Array.mem_of_getElem? (i := 0) rfl) rfl)
      have e48 : a.tmps[48]?.getD undef = .agg #[.int .i64 0, .int .i64 0, .int .i64 0, .int .i64 0, .slice aox nx dx] := (ev a 48).symm.trans (hD _ (Array.mem_of_getElem? (i := 1) rfl) rfl)
      clear hF hD
      have hu : Upd [] _ W := A0
      refine ⟨_, _, by (go_simp; first | done | rfl | exact ⟨rfl, rfl⟩), ?_⟩
      refine (take_any cb (K.new 9 1 false) al0 0 0 0 0 _ _ (HCALL.out.upd hu) (HAV.out.upd hu) HSZ.out HOKK.out HLEN.out (fun W2 hw => HFARR.out _ ((hu.mono (by simp)).trans hw))).mono ?_
      rintro e w3 ⟨v3, own3, rfl, h1, h2, h3⟩
      exact ⟨_, rfl, trivial, own3, h1, h2, (hu.mono (by simp)).trans h3⟩
    · refine chain_run (.inl rfl) ⟨_, rfl⟩ (by kernel_rfl) ?_
      intro a W kst l0 h0 A0 hF hD
      have k0 : kst = 1 := Nat.le_antisymm h0 l0
      subst k0
      clear l0 h0
      clear hF hD
      obtain ⟨own1, h1, h2, h3⟩ := A0
      exact ⟨_, W, by (go_simp; first | done | rfl | exact ⟨rfl, rfl⟩), trivial, own1, by rw [← ev]; exact h1, h2, h3⟩
  intro vals W hv hA
  have v0 : vals 0 = .pointer (some ⟨cb, 0, none⟩) := hv 0 (by decide)
  have v1 : vals 1 = .slice (some ⟨gx, fx, none⟩) 1 cx := hv 1 (by decide)
  have v2 : vals 2 = .pointer (some ⟨gx, fx, none⟩) := hv 2 (by decide)
  have v3 : vals 3 = .pointer (some ⟨gx, fx, none⟩) := hv 3 (by decide)
  have v4 : vals 4 = .int .i64 0 := hv 4 (by decide)
  have v5 : vals 5 = .slice (some ⟨gx, fx, none⟩) 1 cx := hv 5 (by decide)
  have v6 : vals 6 = .pointer (some ⟨gx, fx, none⟩) := hv 6 (by decide)
  have v7 : vals 7 = .pointer (some ⟨gx, fx + 1, none⟩) := hv 7 (by decide)
  have v8 : vals 8 = .slice aox nx dx := hv 8 (by decide)
  have v9 : vals 9 = .agg #[.int .i64 0, .int .i64 0, .int .i64 0, .int .i64 0, .slice aox nx dx] := hv 9 (by decide)
  clear hv
  obtain ⟨own1, h1, h2, h3⟩ := hA
  simp only [putAll, Act.put, Nat.zero_add, Nat.reduceAdd, v0, v1, v2, v3, v4, v5, v6, v7, v8, v9, List.setIfInBounds_toArray, List.set_cons_zero, List.set_cons_succ]
  clear v0 v1 v2 v3 v4 v5 v6 v7 v8 v9
  clear HLT HCS HCU HAV HFARR HCALL HSZ HOKK HLEN
  rw [al_b1] at h1
  have HA4 := Lib.hid (HA3.out.far HB3.out HNE.out h3)
  have HB4 : Hid (CallAt W cb kb1) := h2
  have HX4 := Lib.hid (HX3.out.far HB3.out h3)
  have HU4 : Hid (Upd [] w W) := HU3.out.trans' h3 (fun x hx => .inr (by simp at hx; subst hx; exact HNEW.out.2))
  generalize vals 11 = vy at *
  have HY4 := Lib.hid h1
  clear h1 h2 h3 HX3 HA3 HB3 HU3
  obtain ⟨gy, fy, cy, uy, hvy, my1, my2, csy, cuy, avy, fary⟩ := SaysAt.one_get HY4.out
  obtain ⟨aoy, ny, dy, rfl⟩ := avy.shape
  subst hvy
  simp only [maxLen] at my2
  have HLT : Hid (gy < W.heap.size) := Lib.hid (cell_lt' csy)
  have HCS := Lib.hid csy
  have HCU := Lib.hid cuy
  have HAV := Lib.hid avy
  have HFARR : Hid (∀ W2, Upd [ca] W W2 → AvsAt W2 (.slice aoy ny dy) al1) := fun W2 hu => fary W2 ca _ HA4.out hu
  have HCALL := Lib.hid HA4.out
  have HSZ := Lib.hid al1_small
  have HOKK := Lib.hid (K.openC_ok (K.new_ok 5 1 false))
  have HLEN : Hid (al1.length ≤ 1000000) := by show _ ≤ _; decide
  clear csy cuy avy fary
  obtain ⟨w4, hw4⟩ : ∃ x, x = W := ⟨_, rfl⟩
  subst hw4
  go_upto_region 11 with (fail)
  refine wp_region_chain [some (.pointer (some ⟨ca, 0, none⟩)), some (.slice (some ⟨gy, fy, none⟩) 1 cy), some (.pointer (some ⟨gy, fy, none⟩)), some (.pointer (some ⟨gy, fy, none⟩)), some (.int .i64 5), some (.slice (some ⟨gy, fy, none⟩) 1 cy), some (.pointer (some ⟨gy, fy, none⟩)), some (.pointer (some ⟨gy, fy + 1, none⟩)), some (.slice aoy ny dy), some (.agg #[.int .i64 0, .int .i64 5, .int .i64 0, .int .i64 0, .slice aoy ny dy]), none, none] [10,11] (takeS w4 ca (K.take ka1 al1)) [(0, 0), (0, 0), (0, 0), (0, 0), (0, 0), (0, 0), (0, 0), (0, 0), (0, 0), (0, 0), (0, 0), (1, 1)] (by kernel_rfl) (by kernel_rfl) (by kernel_rfl) (by kernel_rfl) (by kernel_rfl) (by kernel_rfl) ((Upd.refl [] _).drew) ?_ ?_
  · refine StepsC.cons ?_ (StepsC.cons ?_ (StepsC.cons ?_ (StepsC.cons ?_ (StepsC.cons ?_ (StepsC.cons ?_ (StepsC.cons ?_ (StepsC.cons ?_ (StepsC.cons ?_ (StepsC.cons ?_ (StepsC.cons ?_ (StepsC.cons ?_ StepsC.nil)))))))))))
    · refine chain_is _ (.inl rfl) ⟨_, rfl⟩ (by kernel_rfl) rfl ?_
      intro a W kst l0 h0 A0 hF hD
      have k0 : kst = 0 := Nat.le_antisymm h0 l0
      subst k0
      clear l0 h0
      have e1 : a.tmps[1]?.getD undef = _ := (ev a 1).symm.trans (hF 1 (by kernel_rfl))
      clear hF hD
      go_simp
    · refine chain_is _ (.inl rfl) ⟨_, rfl⟩ (by kernel_rfl) rfl ?_
      intro a W kst l0 h0 A0 hF hD
      have k0 : kst = 0 := Nat.le_antisymm h0 l0
      subst k0
      clear l0 h0
      have e6 : a.tmps[6]?.getD undef = _ := (ev a 6).symm.trans (hF 6 (by kernel_rfl))
      clear hF hD
      go_simp
    · refine chain_is _ (.inl rfl) ⟨_, rfl⟩ (by kernel_rfl) rfl ?_
      intro a W kst l0 h0 A0 hF hD
      have k0 : kst = 0 := Nat.le_antisymm h0 l0
      subst k0
      clear l0 h0
      have e54 : a.tmps[54]?.getD undef = .slice (some ⟨gy, fy, none⟩) 1 cy := (ev a 54).symm.trans (hD _ (Array.mem_of_getElem? (i := 0) rfl) rfl)
      clear hF hD
      go_simp
    · refine chain_is _ (.inl rfl) ⟨_, rfl⟩ (by kernel_rfl) rfl ?_
      intro a W kst l0 h0 A0 hF hD
      have k0 : kst = 0 := Nat.le_antisymm h0 l0
      subst k0
      clear l0 h0
      have e55 : a.tmps[55]?.getD undef = .pointer (some ⟨gy, fy, none⟩) := (ev a 55).symm.trans (hD _ (Array.mem_of_getElem? (i := 0) rfl) rfl)
      clear hF hD
      go_simp
    · refine chain_is _ (.inl rfl) ⟨_, rfl⟩ (by kernel_rfl) rfl ?_
      intro a W kst l0 h0 A0 hF hD
      have k0 : kst = 0 := Nat.le_antisymm h0 l0
      subst k0
      clear l0 h0
      have e56 : a.tmps[56]?.getD undef = .pointer (some ⟨gy, fy, none⟩) := (ev a 56).symm.trans (hD _ (Array.mem_of_getElem? (i := 0) rfl) rfl)
      clear hF hD
      have hu : Upd [] _ W := A0
      have c1 := (hu.cell (p := ⟨gy, fy, none⟩) HLT.out (by simp)).trans HCS.out
      go_simp
    · refine chain_is _ (.inl rfl) ⟨_, rfl⟩ (by kernel_rfl) rfl ?_
      intro a W kst l0 h0 A0 hF hD
      have k0 : kst = 0 := Nat.le_antisymm h0 l0
      subst k0
      clear l0 h0
      have e6 : a.tmps[6]?.getD undef = _ := (ev a 6).symm.trans (hF 6 (by kernel_rfl))
      clear hF hD
      go_simp
    · refine chain_is _ (.inl rfl) ⟨_, rfl⟩ (by kernel_rfl) rfl ?_
      intro a W kst l0 h0 A0 hF hD
      have k0 : kst = 0 := Nat.le_antisymm h0 l0
      subst k0
      clear l0 h0
      have e58 : a.tmps[58]?.getD undef = .slice (some ⟨gy, fy, none⟩) 1 cy := (ev a 58).symm.trans (hD _ (Array.mem_of_getElem? (i := 0) rfl) rfl)
      clear hF hD
      go_simp
    · refine chain_is _ (.inl rfl) ⟨_, rfl⟩ (by kernel_rfl) rfl ?_
      intro a W kst l0 h0 A0 hF hD
      have k0 : kst = 0 := Nat.le_antisymm h0 l0
      subst k0
      clear l0 h0
      have e59 : a.tmps[59]?.getD undef = .pointer (some ⟨gy, fy, none⟩) := (ev a 59).symm.trans (hD _ (Array.mem_of_getElem? (i := 0) rfl) rfl)
      clear hF hD
      go_simp
    · refine chain_is _ (.inl rfl) ⟨_, rfl⟩ (by kernel_rfl) rfl ?_
      intro a W kst l0 h0 A0 hF hD
      have k0 : kst = 0 := Nat.le_antisymm h0 l0
      subst k0
      clear l0 h0
      have e60 : a.tmps[60]?.getD undef = .pointer (some ⟨gy, fy + 1, none⟩) := (ev a 60).symm.trans (hD _ (Array.mem_of_getElem? (i := 0) rfl) rfl)
      clear hF hD
      have hu : Upd [] _ W := A0
      have c1 := (hu.cell (p := ⟨gy, fy + 1, none⟩) HLT.out (by simp)).trans HCU.out
      go_simp
    · refine chain_is _ (.inl rfl) ⟨_, rfl⟩ (by kernel_rfl) rfl ?_
      intro a W kst l0 h0 A0 hF hD
      have k0 : kst = 0 := Nat.le_antisymm h0 l0
      subst k0
      clear l0 h0
      have e57 : a.tmps[57]?.getD undef = .int .i64 5 := (ev a 57).symm.trans (hD _ (Array.mem_of_getElem? (i := 0) rfl) rfl)
      have e61 : a.tmps[61]?.getD undef = .slice aoy ny dy := (ev a 61).symm.trans (hD _ (Array.mem_of_getElem? (i := 1) rfl) rfl)
      clear hF hD
      go_simp
    · refine chain_call (.inl rfl) ⟨_, rfl⟩ (by kernel_rfl) ?_
      intro a W kst l0 h0 A0 hF hD
      have k0 : kst = 0 := Nat.le_antisymm h0 l0
      subst k0
      clear l0 h0
      have e53 : a.tmps[53]?.getD undef = .pointer (some ⟨ca, 0, none⟩) := (ev a 53).symm.trans (hD _ (Array.mem_of_getElem? (i := 0) rfl) rfl)
      have e62 : a.tmps[62]?.getD undef = .agg #[.int .i64 0, .int .i64 5, .int .i64 0, .int .i64 0, .slice aoy ny dy] := (ev a 62).symm.trans (hD _ (Array.mem_of_getElem? (i := 1) rfl) rfl)
      clear hF hD
      have hu : Upd [] _ W := A0
      refine ⟨_, _, by (go_simp; first | done | rfl | exact ⟨rfl, rfl⟩), ?_⟩
      refine (take_any ca ka1 al1 0 5 0 0 _ _ (HCALL.out.upd hu) (HAV.out.upd hu) HSZ.out HOKK.out HLEN.out (fun W2 hw => HFARR.out _ ((hu.mono (by simp)).trans hw))).mono ?_
      rintro e w3 ⟨v3, own3, rfl, h1, h2, h3⟩
      exact ⟨_, rfl, trivial, own3, h1, h2, (hu.mono (by simp)).trans h3⟩
    · refine chain_run (.inl rfl) ⟨_, rfl⟩ (by kernel_rfl) ?_
      intro a W kst l0 h0 A0 hF hD
      have k0 : kst = 1 := Nat.le_antisymm h0 l0
      subst k0
      clear l0 h0
      clear hF hD
      obtain ⟨own1, h1, h2, h3⟩ := A0
      exact ⟨_, W, by (go_simp; first | done | rfl | exact ⟨rfl, rfl⟩), trivial, own1, by rw [← ev]; exact h1, h2, h3⟩
  intro vals W hv hA
  have v0 : vals 0 = .pointer (some ⟨ca, 0, none⟩) := hv 0 (by decide)
  have v1 : vals 1 = .slice (some ⟨gy, fy, none⟩) 1 cy := hv 1 (by decide)
  have v2 : vals 2 = .pointer (some ⟨gy, fy, none⟩) := hv 2 (by decide)
  have v3 : vals 3 = .pointer (some ⟨gy, fy, none⟩) := hv 3 (by decide)
  have v4 : vals 4 = .int .i64 5 := hv 4 (by decide)
  have v5 : vals 5 = .slice (some ⟨gy, fy, none⟩) 1 cy := hv 5 (by decide)
  have v6 : vals 6 = .pointer (some ⟨gy, fy, none⟩) := hv 6 (by decide)
  have v7 : vals 7 = .pointer (some ⟨gy, fy + 1, none⟩) := hv 7 (by decide)
  have v8 : vals 8 = .slice aoy ny dy := hv 8 (by decide)
  have v9 : vals 9 = .agg #[.int .i64 0, .int .i64 5, .int .i64 0, .int .i64 0, .slice aoy ny dy] := hv 9 (by decide)
  clear hv
  obtain ⟨own1, h1, h2, h3⟩ := hA
  simp only [putAll, Act.put, Nat.zero_add, Nat.reduceAdd, v0, v1, v2, v3, v4, v5, v6, v7, v8, v9, List.setIfInBounds_toArray, List.set_cons_zero, List.set_cons_succ]
  clear v0 v1 v2 v3 v4 v5 v6 v7 v8 v9
  clear HLT HCS HCU HAV HFARR HCALL HSZ HOKK HLEN
  rw [al_a2] at h1
  have HB5 := Lib.hid (HB4.out.far HA4.out HNE.out.symm h3)
  have HA5 : Hid (CallAt W ca ka2) := h2
  have HX5 := Lib.hid (HX4.out.far HA4.out h3)
  have HY5 := Lib.hid (HY4.out.far HA4.out h3)
  have HU5 : Hid (Upd [] w W) := HU4.out.trans' h3 (fun x hx => .inr (by simp at hx; subst hx; exact HNEW.out.1))
  generalize vals 11 = vz at *
  have HZ5 := Lib.hid h1
  clear h1 h2 h3 HX4 HA4 HB4 HU4 HY4
  obtain ⟨gz, fz, cz, uz, hvz, mz1, mz2, csz, cuz, avz, farz⟩ := SaysAt.one_get HZ5.out
  obtain ⟨aoz, nz, dz, rfl⟩ := avz.shape
  subst hvz
  simp only [maxLen] at mz2
  have HLT : Hid (gz < W.heap.size) := Lib.hid (cell_lt' csz)
  have HCS := Lib.hid csz
  have HCU := Lib.hid cuz
  have HAV := Lib.hid avz
  have HFARR : Hid (∀ W2, Upd [cb] W W2 → AvsAt W2 (.slice aoz nz dz) al2) := fun W2 hu => farz W2 cb _ HB5.out hu
  have HCALL := Lib.hid HB5.out
  have HSZ := Lib.hid al2_small
  have HOKK := Lib.hid (K.take_ok (K.new_ok 9 1 false) al0 al0_small)
  have HLEN : Hid (al2.length ≤ 1000000) := by show _ ≤ _; decide
  clear csz cuz avz farz
  obtain ⟨w5, hw5⟩ : ∃ x, x = W := ⟨_, rfl⟩
  subst hw5
  go_upto_region 14 with (fail)
  refine wp_region_chain [some (.pointer (some ⟨cb, 0, none⟩)), some (.slice (some ⟨gz, fz, none⟩) 1 cz), some (.pointer (some ⟨gz, fz, none⟩)), some (.pointer (some ⟨gz, fz, none⟩)), some (.int .i64 9), some (.slice (some ⟨gz, fz, none⟩) 1 cz), some (.pointer (some ⟨gz, fz, none⟩)), some (.pointer (some ⟨gz, fz + 1, none⟩)), some (.slice aoz nz dz), some (.agg #[.int .i64 0, .int .i64 9, .int .i64 0, .int .i64 0, .slice aoz nz dz]), none] [10] (takeS w5 cb (K.take kb1 al2)) [(0, 0), (0, 0), (0, 0), (0, 0), (0, 0), (0, 0), (0, 0), (0, 0), (0, 0), (0, 0), (0, 0)] (by kernel_rfl) (by kernel_rfl) (by kernel_rfl) (by kernel_rfl) (by kernel_rfl) (by kernel_rfl) ((Upd.refl [] _).drew) ?_ ?_
  · refine StepsC.cons ?_ (StepsC.cons ?_ (StepsC.cons ?_ (StepsC.cons ?_ (StepsC.cons ?_ (StepsC.cons ?_ (StepsC.cons ?_ (StepsC.cons ?_ (StepsC.cons ?_ (StepsC.cons ?_ (StepsC.cons ?_ StepsC.nil))))))))))
    · refine chain_is _ (.inl rfl) ⟨_, rfl⟩ (by kernel_rfl) rfl ?_
      intro a W kst l0 h0 A0 hF hD
      have k0 : kst = 0 := Nat.le_antisymm h0 l0
      subst k0
      clear l0 h0
      have e3 : a.tmps[3]?.getD undef = _ := (ev a 3).symm.trans (hF 3 (by kernel_rfl))
      clear hF hD
      go_simp
    · refine chain_is _ (.inl rfl) ⟨_, rfl⟩ (by kernel_rfl) rfl ?_
      intro a W kst l0 h0 A0 hF hD
      have k0 : kst = 0 := Nat.le_antisymm h0 l0
      subst k0
      clear l0 h0
      have e7 : a.tmps[7]?.getD undef = _ := (ev a 7).symm.trans (hF 7 (by kernel_rfl))
      clear hF hD
      go_simp
    · refine chain_is _ (.inl rfl) ⟨_, rfl⟩ (by kernel_rfl) rfl ?_
      intro a W kst l0 h0 A0 hF hD
      have k0 : kst = 0 := Nat.le_antisymm h0 l0
      subst k0
      clear l0 h0
      have e68 : a.tmps[68]?.getD undef = .slice (some ⟨gz, fz, none⟩) 1 cz := (ev a 68).symm.trans (hD _ (Array.mem_of_getElem? (i := 0) rfl) rfl)
      clear hF hD
      go_simp
    · refine chain_is _ (.inl rfl) ⟨_, rfl⟩ (by kernel_rfl) rfl ?_
      intro a W kst l0 h0 A0 hF hD
      have k0 : kst = 0 := Nat.le_antisymm h0 l0
      subst k0
      clear l0 h0
      have e69 : a.tmps[69]?.getD undef = .pointer (some ⟨gz, fz, none⟩) := (ev a 69).symm.trans (hD _ (Array.mem_of_getElem? (i := 0) rfl) rfl)
      clear hF hD
      go_simp
    · refine chain_is _ (.inl rfl) ⟨_, rfl⟩ (by kernel_rfl) rfl ?_
      intro a W kst l0 h0 A0 hF hD
      have k0 : kst = 0 := Nat.le_antisymm h0 l0
      subst k0
      clear l0 h0
      have e70 : a.tmps[70]?.getD undef = .pointer (some ⟨gz, fz, none⟩) := (ev a 70).symm.trans (hD _ (Array.mem_of_getElem? (i := 0) rfl) rfl)
      clear hF hD
      have hu : Upd [] _ W := A0
      have c1 := (hu.cell (p := ⟨gz, fz, none⟩) HLT.out (by simp)).trans HCS.out
      go_simp
    · refine chain_is _ (.inl rfl) ⟨_, rfl⟩ (by kernel_rfl) rfl ?_
      intro a W kst l0 h0 A0 hF hD
      have k0 : kst = 0 := Nat.le_antisymm h0 l0
      subst k0
      clear l0 h0
      have e7 : a.tmps[7]?.getD undef = _ := (ev a 7).symm.trans (hF 7 (by kernel_rfl))
      clear hF hD
      go_simp
    · refine chain_is _ (.inl rfl) ⟨_, rfl⟩ (by kernel_rfl) rfl ?_
      intro a W kst l0 h0 A0 hF hD
      have k0 : kst = 0 := Nat.le_antisymm h0 l0
      subst k0
      clear l0 h0
      have e72 : a.tmps[72]?.getD undef = .slice (some ⟨gz, fz, none⟩) 1 cz := (ev a 72).symm.trans (hD _ (Array.mem_of_getElem? (i := 0) rfl) rfl)
      clear hF hD
      go_simp
    · refine chain_is _ (.inl rfl) ⟨_, rfl⟩ (by kernel_rfl) rfl ?_
      intro a W kst l0 h0 A0 hF hD
      have k0 : kst = 0 := Nat.le_antisymm h0 l0
      subst k0
      clear l0 h0
      have e73 : a.tmps[73]?.getD undef = .pointer (some ⟨gz, fz, none⟩) := (ev a 73).symm.trans (hD _ (Array.mem_of_getElem? (i := 0) rfl) rfl)
      clear hF hD
      go_simp
    · refine chain_is _ (.inl rfl) ⟨_, rfl⟩ (by kernel_rfl) rfl ?_
      intro a W kst l0 h0 A0 hF hD
      have k0 : kst = 0 := Nat.le_antisymm h0 l0
      subst k0
      clear l0 h0
      have e74 : a.tmps[74]?.getD undef = .pointer (some ⟨gz, fz + 1, none⟩) := (ev a 74).symm.trans (hD _ (Array.mem_of_getElem? (i := 0) rfl) rfl)
      clear hF hD
      have hu : Upd [] _ W := A0
      have c1 := (hu.cell (p := ⟨gz, fz + 1, none⟩) HLT.out (by simp)).trans HCU.out
      go_simp
    · refine chain_is _ (.inl rfl) ⟨_, rfl⟩ (by kernel_rfl) rfl ?_
      intro a W kst l0 h0 A0 hF hD
      have k0 : kst = 0 := Nat.le_antisymm h0 l0
      subst k0
      clear l0 h0
      have e71 : a.tmps[71]?.getD undef = .int .i64 9 := (ev a 71).symm.trans (hD _ (Array.mem_of_getElem? (i := 0) rfl) rfl)
      have e75 : a.tmps[75]?.getD undef = .slice aoz nz dz := (ev a 75).symm.trans (hD _ (Array.mem_of_getElem? (i := 1) rfl) rfl)
      clear hF hD
      go_simp
    · refine chain_call (.inl rfl) ⟨_, rfl⟩ (by kernel_rfl) ?_
      intro a W kst l0 h0 A0 hF hD
      have k0 : kst = 0 := Nat.le_antisymm h0 l0
      subst k0
      clear l0 h0
      have e67 : a.tmps[67]?.getD undef = .pointer (some ⟨cb, 0, none⟩) := (ev a 67).symm.trans (hD _ (Array.mem_of_getElem? (i := 0) rfl) rfl)
      have e76 : a.tmps[76]?.getD undef = .agg #[.int .i64 0, .int .i64 9, .int .i64 0, .int .i64 0, .slice aoz nz dz] := (ev a 76).symm.trans (hD _ (Array.mem_of_getElem? (i := 1) rfl) rfl)
      clear hF hD
      have hu : Upd [] _ W := A0
      refine ⟨_, _, by (go_simp; first | done | rfl | exact ⟨rfl, rfl⟩), ?_⟩
      refine (take_any cb kb1 al2 0 9 0 0 _ _ (HCALL.out.upd hu) (HAV.out.upd hu) HSZ.out HOKK.out HLEN.out (fun W2 hw => HFARR.out _ ((hu.mono (by simp)).trans hw))).mono ?_
      rintro e w3 ⟨v3, own3, rfl, h1, h2, h3⟩
      exact ⟨_, rfl, trivial, own3, h1, h2, (hu.mono (by simp)).trans h3⟩
  intro vals W hv hA
  have v0 : vals 0 = .pointer (some ⟨cb, 0, none⟩) := hv 0 (by decide)
  have v1 : vals 1 = .slice (some ⟨gz, fz, none⟩) 1 cz := hv 1 (by decide)
  have v2 : vals 2 = .pointer (some ⟨gz, fz, none⟩) := hv 2 (by decide)
  have v3 : vals 3 = .pointer (some ⟨gz, fz, none⟩) := hv 3 (by decide)
  have v4 : vals 4 = .int .i64 9 := hv 4 (by decide)
  have v5 : vals 5 = .slice (some ⟨gz, fz, none⟩) 1 cz := hv 5 (by decide)
  have v6 : vals 6 = .pointer (some ⟨gz, fz, none⟩) := hv 6 (by decide)
  have v7 : vals 7 = .pointer (some ⟨gz, fz + 1, none⟩) := hv 7 (by decide)
  have v8 : vals 8 = .slice aoz nz dz := hv 8 (by decide)
  have v9 : vals 9 = .agg #[.int .i64 0, .int .i64 9, .int .i64 0, .int .i64 0, .slice aoz nz dz] := hv 9 (by decide)
  clear hv
  obtain ⟨own1, h1, h2, h3⟩ := hA
  simp only [putAll, Act.put, Nat.zero_add, Nat.reduceAdd, v0, v1, v2, v3, v4, v5, v6, v7, v8, v9, List.setIfInBounds_toArray, List.set_cons_zero, List.set_cons_succ]
  clear v0 v1 v2 v3 v4 v5 v6 v7 v8 v9
  clear HLT HCS HCU HAV HFARR HCALL HSZ HOKK HLEN h1
  have HA6 := Lib.hid (HA5.out.far HB5.out HNE.out h3)
  have HB6 : Hid (CallAt W cb kb2) := h2
  have HX6 := Lib.hid (HX5.out.far HB5.out h3)
  have HY6 := Lib.hid (HY5.out.far HB5.out h3)
  have HZ6 := Lib.hid (HZ5.out.far HB5.out h3)
  have HU6 : Hid (Upd [] w W) := HU5.out.trans' h3 (fun x hx => .inr (by simp at hx; subst hx; exact HNEW.out.2))
  clear h2 h3 HX5 HA5 HB5 HU5 HY5 HZ5
  go_wp2_with fail
  have ida := ids_any ca ka2 W HA6.out al_made.1
  rw [al_end.1, al_end.2.1] at ida
  refine ida.mono ?_
  rintro e w6 ⟨rfl, u6⟩
  clear ida
  have HU7 := Lib.hid u6
  clear u6
  go_wp2_with fail
  have ida := ids_any cb kb2 w6 (HB6.out.upd HU7.out) al_made.2
  rw [al_end.2.2.2.1, al_end.2.2.2.2.1] at ida
  refine ida.mono ?_
  rintro e w7 ⟨rfl, u7⟩
  clear ida
  have HU8 := Lib.hid (HU7.out.trans u7)
  have HU9 := Lib.hid (HU6.out.trans HU8.out)
  have HA7 := Lib.hid (HA6.out.upd HU8.out)
  have HB7 := Lib.hid (HB6.out.upd HU8.out)
  have cx0 := (HX6.out.upd HU8.out).one_cell
  have cy0 := (HY6.out.upd HU8.out).one_cell
  have cz0 := (HZ6.out.upd HU8.out).one_cell
  simp only at cx0 cy0 cz0
  clear u7 HU7 HA6 HB6 HX6 HY6 HZ6 HU6 HU8
  go_wp2_with fail
  have ida := state_any ca ka2 w7 HA7.out al_made.1
  rw [al_end.2.2.1] at ida
  refine ida.mono ?_
  rintro e w8 ⟨rfl, rfl⟩
  clear ida
  go_wp2_with fail
  have ida := state_any cb kb2 w7 HB7.out al_made.2
  rw [al_end.2.2.2.2.2] at ida
  refine ida.mono ?_
  rintro e w8 ⟨rfl, rfl⟩
  clear ida
  go_wp2_with fail
  go_ret
  exact ⟨rfl, HU9.out⟩
end Go.Proofs.Ytihedbaomingpaa
