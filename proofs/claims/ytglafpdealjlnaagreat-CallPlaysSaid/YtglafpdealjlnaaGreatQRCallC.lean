/- The walks of the document's connect, Open (chapter 22). -/
import Derived.Test.YtglafpdealjlnaaGreatQRCallB
namespace Go.Proofs.YtglafpdealjlnaaGreat
open Go.RowKit
set_option linter.unusedSimpArgs false
set_option linter.unusedVariables false
set_option maxRecDepth 100000

/-- Values are put behind others, and said: stage by stage. -/
def rconA (w0 : World) (v0 : Value) (n0 : Nat) (c0 : List Value) (o0 : List Nat) (pr kind : Int) (m : List Av) (vs : List Value) (W : World) : Prop := match vs with
  | [] => Upd [] w0 W ∧ Own W 85 5 v0 n0 c0 o0
  | [u] => Upd [] w0 W ∧ (∃ ao cap, u = .slice ao m.length cap) ∧ AvsAt W u m
  | [_, s] => Upd [] w0 W ∧ ∃ own, RSaysAt W s [(pr, numAv 0 kind 2 :: m)] own ∧ ∀ x ∈ own, w0.heap.size ≤ x
  | [_, s, x] => (Upd [] w0 W ∧ ∃ own, RSaysAt W s [(pr, numAv 0 kind 2 :: m)] own ∧ ∀ x ∈ own, w0.heap.size ≤ x) ∧ x = s
  | _ => False
theorem rconA_upd {w0 W : World} {v0 : Value} {n0 : Nat} {c0 : List Value} {o0 : List Nat} {pr kind : Int} {m : List Av} {vs : List Value} (h : rconA w0 v0 n0 c0 o0 pr kind m vs W) : Upd [] w0 W := by
  match vs, h with
  | [], h => exact h.1
  | [u], h => exact h.1
  | [_, s], h => exact h.1
  | [_, s, x], h => exact h.1.1
theorem rconA_next {w0 W W' : World} {v0 : Value} {n0 : Nat} {c0 : List Value} {o0 : List Nat} {pr kind : Int} {m : List Av} {vs : List Value} (h : rconA w0 v0 n0 c0 o0 pr kind m vs W) (hu : Upd [] W W') : rconA w0 v0 n0 c0 o0 pr kind m vs W' := by
  match vs, h with
  | [], h => exact ⟨h.1.trans hu, h.2.upd hu (by simp)⟩
  | [u], h => exact ⟨h.1.trans hu, h.2.1, h.2.2.upd hu⟩
  | [_, s], ⟨h1, own, h2, h3⟩ => exact ⟨h1.trans hu, own, h2.upd hu, h3⟩
  | [_, s, x], ⟨⟨h1, own, h2, h3⟩, h4⟩ => exact ⟨⟨h1.trans hu, own, h2.upd hu, h3⟩, h4⟩
set_option maxHeartbeats 1000000 in
theorem rconnect_any (b : Nat) (k : K) (w : World) (h : RCallAt w b k) (hs : k.with_.length < 100000) :
    Calls Tryz.prog 189 #[.pointer (some ⟨b, 0, none⟩)] w (RSaid w [k.conn]) := by
  obtain ⟨i0, hi0, hz0, hz1, hz2⟩ := info_parts info_avp
  obtain ⟨xa, hxa⟩ : ∃ x, be 4 10000000 = x := ⟨_, rfl⟩
  have hn1 := fun W => rnum18_any 24 10000000 4 (by omega) (by decide) W
  simp only [Av.agg, numAv, hxa] at hn1
  have HN1 := Lib.hid hn1
  have HE1 : Hid (numAv 24 10000000 4 = ⟨true, false, 0, 24, xa⟩) := by rw [← hxa]; rfl
  clear hxa hn1
  obtain ⟨xb, hxb⟩ : ∃ x, be 4 1 = x := ⟨_, rfl⟩
  have hn2 := fun W => rnum18_any 19 1 4 (by omega) (by decide) W
  simp only [Av.agg, numAv, hxb] at hn2
  have HN2 := Lib.hid hn2
  have HE2 : Hid (numAv 19 1 4 = ⟨true, false, 0, 19, xb⟩) := by rw [← hxb]; rfl
  clear hxb hn2
  have HC := Lib.hid h
  obtain ⟨vw, vg, ow, og, hb, how, -⟩ := h
  obtain ⟨aw, cw, rfl, -, hcw⟩ := how.shape
  obtain ⟨nw, hnw⟩ : ∃ n, n = k.with_.length := ⟨_, rfl⟩
  have HR := Lib.hid (AvsAt.of_own how).rd
  rw [← hnw] at HR hb hs
  have HNW := Lib.hid hnw
  have HB := Lib.hid hb
  have hlt := hb.lt
  obtain ⟨kd, hkd⟩ : ∃ x, kindFor k.out 3 = x := ⟨_, rfl⟩
  have HKD : Hid ((if k.out = true then (9 : Int) else 9 + 3) = kd) := by
    show _ = _
    rw [← hkd, (kindFor_eq k.out).2.2]
    split <;> rfl
  have HKB : Hid (Big kd) := by
    show Big kd
    rw [← hkd, (kindFor_eq k.out).2.2]
    split <;> decide
  have HCO : Hid ([k.conn] = [(k.peer, numAv 0 kd 2 :: ([⟨true, false, 0, 24, xa⟩, ⟨true, false, 0, 19, xb⟩] ++ k.with_))]) := by
    show _ = _
    rw [← HE1.out, ← HE2.out, ← hkd]
    rfl
  rw [HCO.out]
  clear hb how hnw hcw hkd
  obtain ⟨M, hM⟩ : ∃ M, M = ([⟨true, false, 0, 24, xa⟩, ⟨true, false, 0, 19, xb⟩] ++ k.with_ : List Av) := ⟨_, rfl⟩
  have hML : M.length = 2 + nw := by rw [hM, List.length_append, ← HNW.out]; rfl
  have hMC : avCells M = avCells [⟨true, false, 0, 24, xa⟩, ⟨true, false, 0, 19, xb⟩] ++ avCells k.with_ := by rw [hM, avCells_append]
  have HMC := Lib.hid hMC
  have HML := Lib.hid hML
  obtain ⟨pr, hpr⟩ : ∃ x, x = k.peer := ⟨_, rfl⟩
  rw [← hM, ← hpr]
  have HSAY : Hid (∀ W v, Upd [] w W → AvsAt W v M → Calls Tryz.prog 184 #[.pointer (some ⟨b, 0, none⟩), .int .i64 kd, v] W (RSaid W [(pr, numAv 0 kd 2 :: M)])) := fun W v hW hv => by
    rw [hpr]
    exact rsay_any b k kd HKB.out M v W (HC.out.upd hW) hv (by omega)
  clear hM hML hMC hpr HKB HCO HE1 HE2
  go_enter Tryz.func189, Tryz.ntmps189
  go_wp2_with fail
  refine (HN1.out _).mono ?_
  rintro e w1 ⟨rfl, hu1⟩
  go_wp2_with fail
  refine (HN2.out _).mono ?_
  rintro e w2 ⟨rfl, hu2⟩
  have HU2 := Lib.hid (hu1.trans hu2)
  clear hu1 hu2
  have HOL : Hid (Own (w2.alloc (.cells #[.bool true, .bool false, .int .i64 0, .int .i64 24, .string xa, .bool true, .bool false, .int .i64 0, .int .i64 19, .string xb] 85)) 85 5 (.slice (some ⟨w2.heap.size, 0, none⟩) 2 2) 2 (avCells [⟨true, false, 0, 24, xa⟩, ⟨true, false, 0, 19, xb⟩]) [w2.heap.size]) :=
    Own.rows_new w2 85 (n := 2) (size := 5) (cs := avCells [⟨true, false, 0, 24, xa⟩, ⟨true, false, 0, 19, xb⟩]) rfl (by simp [maxLen])
  have HU2A : Hid (Upd [] w2 (w2.alloc (.cells #[.bool true, .bool false, .int .i64 0, .int .i64 24, .string xa, .bool true, .bool false, .int .i64 0, .int .i64 19, .string xb] 85))) := (Upd.refl _ _).alloc _
  go_upto_region 2 with (fail)
  generalize hwa : w2.alloc (.cells #[.bool true, .bool false, .int .i64 0, .int .i64 24, .string xa, .bool true, .bool false, .int .i64 0, .int .i64 19, .string xb] 85) = wa at *
  clear hwa
  refine wp_region_chain [some (.pointer (some ⟨b, 0, none⟩)), some (.pointer (some ⟨b, 0, none⟩)), some (.int .i64 kd), some (.slice (some ⟨w2.heap.size, 0, none⟩) 2 2), some (.pointer (some ⟨b, 0, none⟩)), some (.pointer (some ⟨b, 0, none⟩)), some (.pointer (some ⟨b, 5, none⟩)), some (.slice aw nw cw), none, none, none] [8,9,10] (rconA w2 (.slice (some ⟨w2.heap.size, 0, none⟩) 2 2) 2 (avCells [⟨true, false, 0, 24, xa⟩, ⟨true, false, 0, 19, xb⟩]) [w2.heap.size] pr kd M) [(0, 1), (0, 0), (0, 0), (0, 0), (0, 0), (0, 0), (0, 0), (0, 0), (0, 0), (1, 1), (2, 2)] (by kernel_rfl) (by kernel_rfl) (by kernel_rfl) (by kernel_rfl) (by kernel_rfl) (by kernel_rfl) (⟨HU2A.out.drew, HOL.out.upd (Upd.refl [] _).drew (by simp)⟩) ?_ ?_
  · refine StepsC.cons ?_ (StepsC.cons ?_ (StepsC.cons ?_ (StepsC.cons ?_ (StepsC.cons ?_ (StepsC.cons ?_ (StepsC.cons ?_ (StepsC.cons ?_ (StepsC.cons ?_ (StepsC.cons ?_ (StepsC.cons ?_ StepsC.nil))))))))))
    · refine chain_is _ (.inl rfl) ⟨_, rfl⟩ (by kernel_rfl) rfl ?_
      intro a W kst l0 h0 A0 hF hD
      have e0 : a.tmps[0]?.getD undef = _ := (ev a 0).symm.trans (hF 0 (by kernel_rfl))
      clear hF hD
      go_simp
    · refine chain_is _ (.inl rfl) ⟨_, rfl⟩ (by kernel_rfl) rfl ?_
      intro a W kst l0 h0 A0 hF hD
      have k0 : kst = 0 := Nat.le_antisymm h0 l0
      subst k0
      clear l0 h0
      have e0 : a.tmps[0]?.getD undef = _ := (ev a 0).symm.trans (hF 0 (by kernel_rfl))
      clear hF hD
      go_simp
    · refine chain_beside _ (.inl rfl) ⟨_, rfl⟩ (by kernel_rfl) rfl ?_
      intro a W kst l0 h0 A0 hF hD
      have k0 : kst = 0 := Nat.le_antisymm h0 l0
      subst k0
      clear l0 h0
      have e8 : a.tmps[8]?.getD undef = .pointer (some ⟨b, 0, none⟩) := (ev a 8).symm.trans (hD _ (Array.mem_of_getElem? (i := 0) rfl) rfl)
      clear hF hD
      refine ⟨_, _, by (go_simp; first | done | rfl | exact ⟨rfl, rfl⟩), ?_⟩
      refine (rckind_any b k 9 (by omega) _ (HC.out.upd (HU2.out.trans (rconA_upd A0)))).mono ?_
      rintro e w3 ⟨rfl, rfl⟩
      rw [HKD.out]
      exact ⟨rfl, A0⟩
    · refine chain_is _ (.inl rfl) ⟨_, rfl⟩ (by kernel_rfl) rfl ?_
      intro a W kst l0 h0 A0 hF hD
      have k0 : kst = 0 := Nat.le_antisymm h0 l0
      subst k0
      clear l0 h0
      have e3 : a.tmps[3]?.getD undef = _ := (ev a 3).symm.trans (hF 3 (by kernel_rfl))
      clear hF hD
      go_simp
    · refine chain_is _ (.inl rfl) ⟨_, rfl⟩ (by kernel_rfl) rfl ?_
      intro a W kst l0 h0 A0 hF hD
      have k0 : kst = 0 := Nat.le_antisymm h0 l0
      subst k0
      clear l0 h0
      have e0 : a.tmps[0]?.getD undef = _ := (ev a 0).symm.trans (hF 0 (by kernel_rfl))
      clear hF hD
      go_simp
    · refine chain_is _ (.inl rfl) ⟨_, rfl⟩ (by kernel_rfl) rfl ?_
      intro a W kst l0 h0 A0 hF hD
      have k0 : kst = 0 := Nat.le_antisymm h0 l0
      subst k0
      clear l0 h0
      have e11 : a.tmps[11]?.getD undef = .pointer (some ⟨b, 0, none⟩) := (ev a 11).symm.trans (hD _ (Array.mem_of_getElem? (i := 0) rfl) rfl)
      clear hF hD
      go_simp
    · refine chain_is _ (.inl rfl) ⟨_, rfl⟩ (by kernel_rfl) rfl ?_
      intro a W kst l0 h0 A0 hF hD
      have k0 : kst = 0 := Nat.le_antisymm h0 l0
      subst k0
      clear l0 h0
      have e12 : a.tmps[12]?.getD undef = .pointer (some ⟨b, 0, none⟩) := (ev a 12).symm.trans (hD _ (Array.mem_of_getElem? (i := 0) rfl) rfl)
      clear hF hD
      go_simp
    · refine chain_is _ (.inl rfl) ⟨_, rfl⟩ (by kernel_rfl) rfl ?_
      intro a W kst l0 h0 A0 hF hD
      have k0 : kst = 0 := Nat.le_antisymm h0 l0
      subst k0
      clear l0 h0
      have e13 : a.tmps[13]?.getD undef = .pointer (some ⟨b, 5, none⟩) := (ev a 13).symm.trans (hD _ (Array.mem_of_getElem? (i := 0) rfl) rfl)
      clear hF hD
      have g5 := (HB.out.upd (HU2.out.trans (rconA_upd A0)) (by simp)).cell 5
      simp [K.rcells] at g5
      go_simp
    · refine chain_run (.inl rfl) ⟨_, rfl⟩ (by kernel_rfl) ?_
      intro a W kst l0 h0 A0 hF hD
      have k0 : kst = 0 := Nat.le_antisymm h0 l0
      subst k0
      clear l0 h0
      have e10 : a.tmps[10]?.getD undef = .slice (some ⟨w2.heap.size, 0, none⟩) 2 2 := (ev a 10).symm.trans (hD _ (Array.mem_of_getElem? (i := 0) rfl) rfl)
      have e14 : a.tmps[14]?.getD undef = .slice aw nw cw := (ev a 14).symm.trans (hD _ (Array.mem_of_getElem? (i := 1) rfl) rfl)
      clear hF hD
      obtain ⟨hu, ho⟩ := A0
      have HR0 := HR.out.upd (HU2.out.trans hu)
      obtain ⟨ao1, cap1, w5, own1, hrun, ho1, hin1, hu5⟩ := run_append_Rd (P := Tryz.prog) W 22 22 85 i0 _ 5 40 Tryz.underlying22 hi0 hz0 hz1 hz2 rfl (by decide) _ 2 _ _ ho _ nw _ HR0 (by simp only [maxLen]; omega) (by omega)
      refine ⟨_, w5, exec_append rfl ((ev a 10).trans e10) ((ev a 14).trans e14) hrun, trivial, hu.trans' hu5 (fun x hx => .inr (by simp at hx; omega)), ⟨ao1, cap1, by rw [HML.out]⟩, AvsAt.of_own (e := 85) (own := own1) ?_⟩
      rw [HML.out, HMC.out]
      exact ho1
    · refine chain_call (.inl rfl) ⟨_, rfl⟩ (by kernel_rfl) ?_
      intro a W kst l0 h0 A0 hF hD
      have k0 : kst = 1 := Nat.le_antisymm h0 l0
      subst k0
      clear l0 h0
      have e7 : a.tmps[7]?.getD undef = .pointer (some ⟨b, 0, none⟩) := (ev a 7).symm.trans (hD _ (Array.mem_of_getElem? (i := 0) rfl) rfl)
      have e9 : a.tmps[9]?.getD undef = .int .i64 kd := (ev a 9).symm.trans (hD _ (Array.mem_of_getElem? (i := 1) rfl) rfl)
      clear hF hD
      obtain ⟨hu, ⟨ao1, cap1, hv⟩, ha⟩ := A0
      rw [HML.out] at hv
      have e15 : a.tmps[15]?.getD undef = _ := (ev a 15).symm.trans hv
      rw [hv] at ha
      refine ⟨_, _, by (go_simp; first | done | rfl | exact ⟨rfl, rfl⟩), ?_⟩
      refine (HSAY.out W _ (HU2.out.trans hu) ha).mono ?_
      intro e w3 hs
      obtain ⟨ao2, c2, own2, rfl, h2, h3, h4⟩ := hs.at_
      exact ⟨_, rfl, trivial, hu.trans h4, own2, h2, fun x hx => Nat.le_trans hu.size (h3 x hx)⟩
    · refine chain_run (.inl rfl) ⟨_, rfl⟩ (by kernel_rfl) ?_
      intro a W kst l0 h0 A0 hF hD
      have k0 : kst = 2 := Nat.le_antisymm h0 l0
      subst k0
      clear l0 h0
      clear hF hD
      exact ⟨_, W, by (go_simp; first | done | rfl), trivial, A0, (ev a 16).symm⟩
  intro vals W hv hA
  have v0 : vals 0 = .pointer (some ⟨b, 0, none⟩) := hv 0 (by decide)
  have v1 : vals 1 = .pointer (some ⟨b, 0, none⟩) := hv 1 (by decide)
  have v2 : vals 2 = .int .i64 kd := hv 2 (by decide)
  have v3 : vals 3 = .slice (some ⟨w2.heap.size, 0, none⟩) 2 2 := hv 3 (by decide)
  have v4 : vals 4 = .pointer (some ⟨b, 0, none⟩) := hv 4 (by decide)
  have v5 : vals 5 = .pointer (some ⟨b, 0, none⟩) := hv 5 (by decide)
  have v6 : vals 6 = .pointer (some ⟨b, 5, none⟩) := hv 6 (by decide)
  have v7 : vals 7 = .slice aw nw cw := hv 7 (by decide)
  clear hv
  obtain ⟨⟨hu, own1, ho, hf⟩, h10⟩ := hA
  obtain ⟨ao1, cap1, hv, -, -⟩ := ho.shape
  rw [hv] at ho
  have v10 : vals 10 = .slice ao1 1 cap1 := h10.trans hv
  simp only [putAll, Act.put, Nat.zero_add, Nat.reduceAdd, v10, v0, v1, v2, v3, v4, v5, v6, v7, List.setIfInBounds_toArray, List.set_cons_zero, List.set_cons_succ]
  clear v0 v1 v2 v3 v4 v5 v6 v7
  have HO := Lib.hid ho
  have HF : Hid (∀ x ∈ own1, w.heap.size ≤ x) := fun x hx => Nat.le_trans HU2.out.size (hf x hx)
  have HUE := Lib.hid (HU2.out.trans hu)
  clear ho hf h10 hv v10 hu
  go_wp2_with fail
  go_ret
  exact ⟨⟨_, own1, rfl, HO.out, HF.out, HUE.out⟩⟩

def ropenA (w0 : World) (o2 : Av) (o4 : Av) (kd : Int) (vs : List Value) (W : World) : Prop := match vs with
  | [] => Upd [] w0 W
  | [u] => Upd [] w0 W ∧ AvsAt W u [o2, o4] ∧ ∃ g, u = .slice (some ⟨g, 0, none⟩) 2 2
  | [_, u] => Upd [] w0 W ∧ ∃ own, Own W 85 5 u (numAv 0 kd 2 :: [o2, o4]).length (avCells (numAv 0 kd 2 :: [o2, o4])) own
  | [_, _, a] => Upd [] w0 W ∧ ∃ u own, a = .agg #[.int .i64 0, u] ∧ (∃ ao cap, u = .slice ao (numAv 0 kd 2 :: [o2, o4]).length cap) ∧ Own W 85 5 u (numAv 0 kd 2 :: [o2, o4]).length (avCells (numAv 0 kd 2 :: [o2, o4])) own
  | [_, _, _, s] => Upd [] w0 W ∧ ∃ own, RSaysAt W s [(0, numAv 0 kd 2 :: [o2, o4])] own ∧ ∀ x ∈ own, w0.heap.size ≤ x
  | [_, _, _, s, x] => (Upd [] w0 W ∧ ∃ own, RSaysAt W s [(0, numAv 0 kd 2 :: [o2, o4])] own ∧ ∀ x ∈ own, w0.heap.size ≤ x) ∧ x = s
  | _ => False
theorem ropenA_upd {w0 W : World} {o2 o4 : Av} {kd : Int} {vs : List Value} (h : ropenA w0 o2 o4 kd vs W) : Upd [] w0 W := by
  match vs, h with
  | [], h => exact h
  | [u], h => exact h.1
  | [_, u], h => exact h.1
  | [_, _, a], h => exact h.1
  | [_, _, _, s], h => exact h.1
  | [_, _, _, s, x], h => exact h.1.1
theorem ropenA_next {w0 W W' : World} {o2 o4 : Av} {kd : Int} {vs : List Value} (h : ropenA w0 o2 o4 kd vs W) (hu : Upd [] W W') : ropenA w0 o2 o4 kd vs W' := by
  match vs, h with
  | [], h => exact Upd.trans h hu
  | [u], ⟨h1, h2, h3⟩ => exact ⟨h1.trans hu, h2.upd hu, h3⟩
  | [_, u], ⟨h1, own, h2⟩ => exact ⟨h1.trans hu, own, h2.upd hu (by simp)⟩
  | [_, _, a], ⟨h1, u, own, h2, h3, h4⟩ => exact ⟨h1.trans hu, u, own, h2, h3, h4.upd hu (by simp)⟩
  | [_, _, _, s], ⟨h1, own, h2, h3⟩ => exact ⟨h1.trans hu, own, h2.upd hu, h3⟩
  | [_, _, _, s, x], ⟨⟨h1, own, h2, h3⟩, h4⟩ => exact ⟨⟨h1.trans hu, own, h2.upd hu, h3⟩, h4⟩
set_option maxHeartbeats 1000000 in
theorem ropen_any (b : Nat) (k : K) (hi : Big k.id ∧ Big k.serial) (hp : k.state = 0 → k.peer = 0) (w : World) (h : RCallAt w b k) :
    Calls Tryz.prog 38 #[.pointer (some ⟨b, 0, none⟩)] w (RSaidEnd w b k.openC) := by
  have HC := Lib.hid h
  obtain ⟨vw, vg, hb⟩ := h.cells_
  have g4 := hb.cell 4
  have f4 := hb.frozen 4
  have hlt := hb.lt
  simp [K.rcells] at g4
  clear hb
  by_cases t0 : k.state = 0
  rotate_left
  · have HG : Hid (k.openC = (k, [])) := by show _ = _; unfold K.openC; rw [if_neg t0]
    have u0 : (k.state != 0) = true := by simpa using t0
    rw [HG.out]
    clear t0 h HG hp hi
    generalize k.state = st at *
    go_enter Tryz.func38, Tryz.ntmps38
    go_wp2_with fail
    go_ret
    exact ⟨⟨_, [], rfl, RSaysAt.nil _, by simp, HC.out, Upd.refl _ _⟩⟩
  have hp0 := hp t0
  obtain ⟨x2, hx2⟩ : ∃ x, be 2 k.id = x := ⟨_, rfl⟩
  obtain ⟨x4, hx4⟩ : ∃ x, be 4 k.serial = x := ⟨_, rfl⟩
  obtain ⟨sr, hsr⟩ : ∃ x, k.serial = x := ⟨_, rfl⟩
  have hn4 := fun W => rnum18_any 15 k.serial 4 (by omega) hi.2 W
  simp only [Av.agg, numAv, hx4] at hn4
  rw [hsr] at hn4
  have HN4 := Lib.hid hn4
  have HE4 : Hid (numAv 15 k.serial 4 = ⟨true, false, 0, 15, x4⟩) := by rw [← hx4]; rfl
  have HE2 : Hid (k.own = ⟨true, false, 0, 14, x2⟩) := by rw [← hx2]; rfl
  have HID := Lib.hid hi.1
  obtain ⟨kd, hkd⟩ : ∃ x, kindFor k.out 1 = x := ⟨_, rfl⟩
  have HKD : Hid ((if k.out = true then (7 : Int) else 7 + 3) = kd) := by
    show _ = _
    rw [← hkd, (kindFor_eq k.out).1]
    split <;> rfl
  have HKB : Hid (Big kd) := by
    show Big kd
    rw [← hkd, (kindFor_eq k.out).1]
    split <;> decide
  have HG : Hid (k.openC = ({ k with state := 1 }, [(0, numAv 0 kd 2 :: [⟨true, false, 0, 14, x2⟩, ⟨true, false, 0, 15, x4⟩])])) := by
    show _ = _
    unfold K.openC
    rw [if_pos t0, hkd, HE2.out, HE4.out, K.say, hp0]
  have HK : Hid (RCallAt (w.setCell ⟨b, 4, none⟩ (.int .i64 1)) b { k with state := 1 }) := h.set 4 _ (fun _ _ => rfl) rfl rfl
  have HSR := Lib.hid hsr
  rw [HG.out]
  rw [t0] at g4
  clear t0 h HG hp hi hp0 hx2 hx4 hn4 hkd hsr HE4
  go_enter Tryz.func38, Tryz.ntmps38
  have HUS : Hid (Upd [b] w (w.setCell ⟨b, 4, none⟩ (.int .i64 1))) := (Upd.refl [b] w).setCell _ (.inl (by simp))
  go_upto_region 4 with (fail)
  generalize hw1 : w.setCell ⟨b, 4, none⟩ (.int .i64 1) = w1 at *
  clear hw1 g4 f4
  have HE2 : Hid (({ k with state := 1 } : K).own.agg = .agg #[.bool true, .bool false, .int .i64 0, .int .i64 14, .string x2]) := by
    show (k.own).agg = _
    rw [HE2.out]
    rfl
  refine wp_region_chain [some (.pointer (some ⟨b, 0, none⟩)), some (.int .i64 kd), some (.pointer (some ⟨b, 0, none⟩)), some (.agg #[.bool true, .bool false, .int .i64 0, .int .i64 14, .string x2]), some (.pointer (some ⟨b, 0, none⟩)), some (.pointer (some ⟨b, 0, none⟩)), some (.pointer (some ⟨b, 1, none⟩)), some (.int .i64 sr), some (.agg #[.bool true, .bool false, .int .i64 0, .int .i64 15, .string x4]), none, none, none, none, none] [9,10,11,12,13] (ropenA w1 ⟨true, false, 0, 14, x2⟩ ⟨true, false, 0, 15, x4⟩ kd) [(0, 0), (0, 0), (0, 0), (0, 0), (0, 0), (0, 0), (0, 0), (0, 0), (0, 0), (0, 0), (1, 1), (2, 2), (3, 3), (4, 4)] (by kernel_rfl) (by kernel_rfl) (by kernel_rfl) (by kernel_rfl) (by kernel_rfl) (by kernel_rfl) ((Upd.refl [] w1).drew) ?_ ?_
  · refine StepsC.cons ?_ (StepsC.cons ?_ (StepsC.cons ?_ (StepsC.cons ?_ (StepsC.cons ?_ (StepsC.cons ?_ (StepsC.cons ?_ (StepsC.cons ?_ (StepsC.cons ?_ (StepsC.cons ?_ (StepsC.cons ?_ (StepsC.cons ?_ (StepsC.cons ?_ (StepsC.cons ?_ StepsC.nil)))))))))))))
    · refine chain_is _ (.inl rfl) ⟨_, rfl⟩ (by kernel_rfl) rfl ?_
      intro a W kst l0 h0 A0 hF hD
      have k0 : kst = 0 := Nat.le_antisymm h0 l0
      subst k0
      clear l0 h0
      have e0 : a.tmps[0]?.getD undef = _ := (ev a 0).symm.trans (hF 0 (by kernel_rfl))
      clear hF hD
      go_simp
    · refine chain_beside _ (.inl rfl) ⟨_, rfl⟩ (by kernel_rfl) rfl ?_
      intro a W kst l0 h0 A0 hF hD
      have k0 : kst = 0 := Nat.le_antisymm h0 l0
      subst k0
      clear l0 h0
      have e11 : a.tmps[11]?.getD undef = .pointer (some ⟨b, 0, none⟩) := (ev a 11).symm.trans (hD _ (Array.mem_of_getElem? (i := 0) rfl) rfl)
      clear hF hD
      refine ⟨_, _, by (go_simp; first | done | rfl | exact ⟨rfl, rfl⟩), ?_⟩
      refine (rckind_any b { k with state := 1 } 7 (by omega) _ (HK.out.upd (ropenA_upd A0))).mono ?_
      rintro e w3 ⟨rfl, rfl⟩
      rw [HKD.out]
      exact ⟨rfl, A0⟩
    · refine chain_is _ (.inl rfl) ⟨_, rfl⟩ (by kernel_rfl) rfl ?_
      intro a W kst l0 h0 A0 hF hD
      have k0 : kst = 0 := Nat.le_antisymm h0 l0
      subst k0
      clear l0 h0
      have e0 : a.tmps[0]?.getD undef = _ := (ev a 0).symm.trans (hF 0 (by kernel_rfl))
      clear hF hD
      go_simp
    · refine chain_beside _ (.inl rfl) ⟨_, rfl⟩ (by kernel_rfl) rfl ?_
      intro a W kst l0 h0 A0 hF hD
      have k0 : kst = 0 := Nat.le_antisymm h0 l0
      subst k0
      clear l0 h0
      have e13 : a.tmps[13]?.getD undef = .pointer (some ⟨b, 0, none⟩) := (ev a 13).symm.trans (hD _ (Array.mem_of_getElem? (i := 0) rfl) rfl)
      clear hF hD
      refine ⟨_, _, by (go_simp; first | done | rfl | exact ⟨rfl, rfl⟩), ?_⟩
      refine (rcid_any b { k with state := 1 } HID.out _ (HK.out.upd (ropenA_upd A0))).mono ?_
      rintro e w3 ⟨rfl, hu3⟩
      rw [HE2.out]
      exact ⟨rfl, ropenA_next A0 hu3⟩
    · refine chain_is _ (.inl rfl) ⟨_, rfl⟩ (by kernel_rfl) rfl ?_
      intro a W kst l0 h0 A0 hF hD
      have k0 : kst = 0 := Nat.le_antisymm h0 l0
      subst k0
      clear l0 h0
      have e0 : a.tmps[0]?.getD undef = _ := (ev a 0).symm.trans (hF 0 (by kernel_rfl))
      clear hF hD
      go_simp
    · refine chain_is _ (.inl rfl) ⟨_, rfl⟩ (by kernel_rfl) rfl ?_
      intro a W kst l0 h0 A0 hF hD
      have k0 : kst = 0 := Nat.le_antisymm h0 l0
      subst k0
      clear l0 h0
      have e15 : a.tmps[15]?.getD undef = .pointer (some ⟨b, 0, none⟩) := (ev a 15).symm.trans (hD _ (Array.mem_of_getElem? (i := 0) rfl) rfl)
      clear hF hD
      go_simp
    · refine chain_is _ (.inl rfl) ⟨_, rfl⟩ (by kernel_rfl) rfl ?_
      intro a W kst l0 h0 A0 hF hD
      have k0 : kst = 0 := Nat.le_antisymm h0 l0
      subst k0
      clear l0 h0
      have e16 : a.tmps[16]?.getD undef = .pointer (some ⟨b, 0, none⟩) := (ev a 16).symm.trans (hD _ (Array.mem_of_getElem? (i := 0) rfl) rfl)
      clear hF hD
      go_simp
    · refine chain_is _ (.inl rfl) ⟨_, rfl⟩ (by kernel_rfl) rfl ?_
      intro a W kst l0 h0 A0 hF hD
      have k0 : kst = 0 := Nat.le_antisymm h0 l0
      subst k0
      clear l0 h0
      have e17 : a.tmps[17]?.getD undef = .pointer (some ⟨b, 1, none⟩) := (ev a 17).symm.trans (hD _ (Array.mem_of_getElem? (i := 0) rfl) rfl)
      clear hF hD
      obtain ⟨vw, vg, hb⟩ := (HK.out.upd (ropenA_upd A0)).cells_
      have g1 := hb.cell 1
      simp [K.rcells, HSR.out] at g1
      go_simp
    · refine chain_beside _ (.inl rfl) ⟨_, rfl⟩ (by kernel_rfl) rfl ?_
      intro a W kst l0 h0 A0 hF hD
      have k0 : kst = 0 := Nat.le_antisymm h0 l0
      subst k0
      clear l0 h0
      have e18 : a.tmps[18]?.getD undef = .int .i64 sr := (ev a 18).symm.trans (hD _ (Array.mem_of_getElem? (i := 0) rfl) rfl)
      clear hF hD
      refine ⟨_, _, by (go_simp; first | done | rfl | exact ⟨rfl, rfl⟩), ?_⟩
      refine (HN4.out _).mono ?_
      rintro e w3 ⟨rfl, hu3⟩
      exact ⟨rfl, ropenA_next A0 hu3⟩
    · refine chain_run (.inl rfl) ⟨_, rfl⟩ (by kernel_rfl) ?_
      intro a W kst l0 h0 A0 hF hD
      have k0 : kst = 0 := Nat.le_antisymm h0 l0
      subst k0
      clear l0 h0
      have e14 : a.tmps[14]?.getD undef = .agg #[.bool true, .bool false, .int .i64 0, .int .i64 14, .string x2] := (ev a 14).symm.trans (hD _ (Array.mem_of_getElem? (i := 0) rfl) rfl)
      have e19 : a.tmps[19]?.getD undef = .agg #[.bool true, .bool false, .int .i64 0, .int .i64 15, .string x4] := (ev a 19).symm.trans (hD _ (Array.mem_of_getElem? (i := 1) rfl) rfl)
      clear hF hD
      have hu : Upd [] w1 W := A0
      refine ⟨.slice (some ⟨W.heap.size, 0, none⟩) 2 2, W.alloc (.cells #[.bool true, .bool false, .int .i64 0, .int .i64 14, .string x2, .bool true, .bool false, .int .i64 0, .int .i64 15, .string x4] 85), by go_simp, trivial, hu.alloc _, avs_two W ⟨true, false, 0, 14, x2⟩ ⟨true, false, 0, 15, x4⟩, _, rfl⟩
    · refine chain_call (.inl rfl) ⟨_, rfl⟩ (by kernel_rfl) ?_
      intro a W kst l0 h0 A0 hF hD
      have k0 : kst = 1 := Nat.le_antisymm h0 l0
      subst k0
      clear l0 h0
      have e12 : a.tmps[12]?.getD undef = .int .i64 kd := (ev a 12).symm.trans (hD _ (Array.mem_of_getElem? (i := 0) rfl) rfl)
      clear hF hD
      obtain ⟨hu, ha, g, hv⟩ := A0
      have e20 : a.tmps[20]?.getD undef = _ := (ev a 20).symm.trans hv
      rw [hv] at ha
      refine ⟨_, _, by (go_simp; first | done | rfl | exact ⟨rfl, rfl⟩), ?_⟩
      refine (rmake_any kd HKB.out _ _ _ ha (by simp)).mono ?_
      rintro e w3 ⟨u1, own1, rfl, ho1, -, hu2⟩
      exact ⟨_, rfl, trivial, hu.trans hu2, own1, by rw [List.length_cons, Nat.add_comm]; exact ho1⟩
    · refine chain_run (.inl rfl) ⟨_, rfl⟩ (by kernel_rfl) ?_
      intro a W kst l0 h0 A0 hF hD
      have k0 : kst = 2 := Nat.le_antisymm h0 l0
      subst k0
      clear l0 h0
      clear hF hD
      obtain ⟨hu, own1, ho⟩ := A0
      obtain ⟨ao1, cap1, hv, -, -⟩ := ho.shape
      have e21 : a.tmps[21]?.getD undef = _ := (ev a 21).symm.trans hv
      rw [hv] at ho
      refine ⟨.agg #[.int .i64 0, .slice ao1 3 cap1], W, by go_simp, trivial, hu, _, own1, rfl, ⟨ao1, cap1, rfl⟩, ho⟩
    · refine chain_run (.inl rfl) ⟨_, rfl⟩ (by kernel_rfl) ?_
      intro a W kst l0 h0 A0 hF hD
      have k0 : kst = 3 := Nat.le_antisymm h0 l0
      subst k0
      clear l0 h0
      clear hF hD
      obtain ⟨hu, u, own1, hg, ⟨ao1, cap1, hv⟩, ho⟩ := A0
      subst hv
      have HO1 := Lib.hid ho
      clear ho
      have e22 : a.tmps[22]?.getD undef = _ := (ev a 22).symm.trans hg
      refine ⟨.slice (some ⟨W.heap.size, 0, none⟩) 1 1, W.alloc (.cells #[.int .i64 0, .slice ao1 3 cap1] 91), by go_simp, trivial, hu.alloc _, [W.heap.size], RSaysAt.one HO1.out, fun x hx => by simp at hx; have := hu.size; omega⟩
    · refine chain_run (.inl rfl) ⟨_, rfl⟩ (by kernel_rfl) ?_
      intro a W kst l0 h0 A0 hF hD
      have k0 : kst = 4 := Nat.le_antisymm h0 l0
      subst k0
      clear l0 h0
      clear hF hD
      exact ⟨_, W, by (go_simp; first | done | rfl), trivial, A0, (ev a 23).symm⟩
  intro vals W hv hA
  have v0 : vals 0 = .pointer (some ⟨b, 0, none⟩) := hv 0 (by decide)
  have v1 : vals 1 = .int .i64 kd := hv 1 (by decide)
  have v2 : vals 2 = .pointer (some ⟨b, 0, none⟩) := hv 2 (by decide)
  have v3 : vals 3 = .agg #[.bool true, .bool false, .int .i64 0, .int .i64 14, .string x2] := hv 3 (by decide)
  have v4 : vals 4 = .pointer (some ⟨b, 0, none⟩) := hv 4 (by decide)
  have v5 : vals 5 = .pointer (some ⟨b, 0, none⟩) := hv 5 (by decide)
  have v6 : vals 6 = .pointer (some ⟨b, 1, none⟩) := hv 6 (by decide)
  have v7 : vals 7 = .int .i64 sr := hv 7 (by decide)
  have v8 : vals 8 = .agg #[.bool true, .bool false, .int .i64 0, .int .i64 15, .string x4] := hv 8 (by decide)
  clear hv
  obtain ⟨⟨hu, own1, ho, hf⟩, h13⟩ := hA
  obtain ⟨ao1, cap1, hv, -, -⟩ := ho.shape
  rw [hv] at ho
  have v13 : vals 13 = .slice ao1 1 cap1 := h13.trans hv
  simp only [putAll, Act.put, Nat.zero_add, Nat.reduceAdd, v13, v0, v1, v2, v3, v4, v5, v6, v7, v8, List.setIfInBounds_toArray, List.set_cons_zero, List.set_cons_succ]
  clear v0 v1 v2 v3 v4 v5 v6 v7 v8
  have HO := Lib.hid ho
  have HF : Hid (∀ x ∈ own1, w.heap.size ≤ x) := fun x hx => Nat.le_trans HUS.out.size (hf x hx)
  have HKE := Lib.hid (HK.out.upd hu)
  have HUE : Hid (Upd [b] w W) := HUS.out.trans (hu.mono (by simp))
  clear ho hf h13 hv v13 hu
  go_wp2_with fail
  go_ret
  exact ⟨⟨_, own1, rfl, HO.out, HF.out, HKE.out, HUE.out⟩⟩
end Go.Proofs.YtglafpdealjlnaaGreat
