/- The walks of a call's Take, With and Got. A call: what stays in order; what one end says, taken by another one. The walk of chapter 22's alive. -/
import Derived.Test.YtglafpdealjlnaaGreatQCallG
namespace Go.Proofs.YtglafpdealjlnaaGreat
open Go.RowKit
set_option linter.unusedSimpArgs false
set_option linter.unusedVariables false
set_option maxRecDepth 100000

def takeR (does : Int) (vs : List Value) (w : World) : Prop := match vs with
  | [] => True
  | [m] => ∃ g, m = .map (some g) ∧ TabM encRole w g roleTabV
  | [_, r] => r = .int .i64 does
  | [_, _, r] => r = .int .i64 does
  | _ => False
theorem role_look (kind : Int) (out : Bool) : (lookV (kind, out) roleTabV).getD (.int .i64 0) = .int .i64 (roleOf kind out) := by
  have h : ∀ l : List ((Int × Bool) × Int), lookV (kind, out) (l.map fun p => (p.1, Value.int .i64 p.2)) = (l.find? (fun p => (kind, out) == p.1)).map (fun p => Value.int .i64 p.2) := by
    intro l
    induction l with
    | nil => rfl
    | cons p l ih =>
      rw [List.map_cons, lookV, List.find?_cons]
      by_cases h : (kind, out) = p.1
      · simp [h]
      · have : ((kind, out) == p.1) = false := by simpa using h
        rw [if_neg (by simpa using h), this]
        exact ih
  rw [roleTabV, h, roleOf]
  cases roleTab.find? (fun p => (kind, out) == p.1) <;> rfl
set_option maxHeartbeats 8000000 in
theorem take_any (b : Nat) (k : K) (l : List Av) (t s ns nr : Int) (v : Value) (w : World) (h : CallAt w b k) (hl : AvsAt w v l) (hs : ∀ a ∈ l, a.val.size ≤ maxLen) (hok : k.ok) (hlen : l.length ≤ 1000000)
    (hfar : ∀ W, Upd [b] w W → AvsAt W v l) :
    Calls Tryz.prog 46 #[.pointer (some ⟨b, 0, none⟩), .agg #[.int .i64 t, .int .i64 s, .int .i64 ns, .int .i64 nr, v]] w (SaidEnd w b (k.take l)) := by
  have HC := Lib.hid h
  have HS := Lib.hid hs
  have HOK := Lib.hid hok
  have hm := hok.m
  obtain ⟨ao, cap, hv, hv1, hv2, -⟩ := id hl
  subst hv
  obtain ⟨nl, hnl⟩ : ∃ n, n = l.length := ⟨_, rfl⟩
  rw [← hnl] at hv1 hl hfar
  simp only [← hnl]
  have HFAR := Lib.hid hfar
  have HCB := Lib.hid (h.upd ((Upd.refl [] w).alloc (.cells #[.int .i64 t, .int .i64 s, .int .i64 ns, .int .i64 nr, (.slice ao nl cap)] 24)))
  have HLB := Lib.hid (hl.upd ((Upd.refl [] w).alloc (.cells #[.int .i64 t, .int .i64 s, .int .i64 ns, .int .i64 nr, (.slice ao nl cap)] 24)))
  obtain ⟨vw, vg, hb⟩ := h.cells_
  have g5 := hb.cell 5
  have hlt := hb.lt
  simp [K.cells] at g5
  clear hb h hl hs hok hnl hv1 hv2 hfar
  by_cases t4 : k.state = 4
  · have HG : Hid (k.take l = (k, [])) := by show _ = _; unfold K.take; rw [if_pos t4]
    rw [t4] at g5
    clear t4
    go_enter Tryz.func46, Tryz.ntmps46
    go_wp2_with fail
    refine (none_any b k _ HCB.out).mono ?_
    rintro e w1 ⟨rfl, rfl⟩
    rw [hm]
    go_wp2_with fail
    go_ret
    rw [HG.out]
    exact ⟨⟨_, [], rfl, SaysN.nil _ _, HCB.out, (Upd.refl [b] w).alloc _⟩⟩
  have tb4 : (k.state == 4) = false := by simpa using t4
  obtain ⟨kd, hkd⟩ : ∃ x, x = kindOf l := ⟨_, rfl⟩
  obtain ⟨d, hd⟩ : ∃ x, x = roleOf kd k.out := ⟨_, rfl⟩
  obtain ⟨ck, hck⟩ : ∃ x, x = checkOf l := ⟨_, rfl⟩
  have HKD := Lib.hid hkd
  have HD := Lib.hid hd
  have HCK := Lib.hid hck
  clear hkd hd hck
  by_cases t0 : k.state = 0
  · have tb0 : (k.state == 0) = true := by simpa using t0
    by_cases t1 : d = 1
    · have tb1 : (d != 1) = false := by simpa using t1
      have HNI : Hid (¬ (k.state = 0 ∧ d ≠ 1)) := by show ¬ _; simp [t1]
      clear t1 t0
      by_cases tc : ck = 0
      · by_cases tk : kd = 14
        · have HG : Hid (k.take l = ({ k with state := 4 }, [])) := by
            show _ = _
            unfold K.take
            rw [← HKD.out, ← HD.out, ← HCK.out]
            rw [if_neg t4, if_neg HNI.out, if_neg (by simp [tc]), if_pos tk]
          have tkb : (kd == 14) = true := by simpa using tk
          have HT := Lib.hid tk
          clear tk t4
          go_enter Tryz.func46, Tryz.ntmps46
          go_wp2_with fail
          refine (none_any b k _ HCB.out).mono ?_
          rintro e w1 ⟨rfl, rfl⟩
          rw [hm]
          go_wp2_with fail
          refine (kind_any t s ns nr _ l _ HLB.out HS.out).mono ?_
          rintro e w2 ⟨rfl, hu2⟩
          have HC2 := Lib.hid (HCB.out.upd hu2)
          have HU2 : Hid (Upd [b] w w2) := (((Upd.refl [] w).alloc _).trans hu2).mono (by simp)
          have HL2 := Lib.hid (HLB.out.upd hu2)
          have HB2 : Hid (Blk w2 w.heap.size 24 #[.int .i64 t, .int .i64 s, .int .i64 ns, .int .i64 nr, (.slice ao nl cap)]) := (Blk.new w 24 _).upd hu2 (by simp)
          clear hu2 g5
          rw [← HKD.out]
          go_upto_region 4 with (fail)
          refine wp_region_chain [none, some (.int .i64 kd), some (.pointer (some ⟨b, 0, none⟩)), some (.pointer (some ⟨b, 0, none⟩)), some (.pointer (some ⟨b, 3, none⟩)), some (.bool k.out), some (.agg #[.int .i64 kd, .bool k.out]), none, none] [0,7,8] (stageA w2 (takeR (roleOf kd k.out))) [(0, 0), (0, 1), (0, 1), (0, 1), (0, 1), (0, 1), (0, 1), (1, 1), (2, 2)] (by kernel_rfl) (by kernel_rfl) (by kernel_rfl) (by kernel_rfl) (by kernel_rfl) (by kernel_rfl) (⟨(Upd.refl [] _).drew, trivial⟩) ?_ ?_
          · refine StepsC.cons ?_ (StepsC.cons ?_ (StepsC.cons ?_ (StepsC.cons ?_ (StepsC.cons ?_ (StepsC.cons ?_ (StepsC.cons ?_ (StepsC.cons ?_ (StepsC.cons ?_ StepsC.nil))))))))
            · refine chain_call (.inl rfl) ⟨_, rfl⟩ (by kernel_rfl) ?_
              intro a W kst l0 h0 A0 hF hD
              have k0 : kst = 0 := Nat.le_antisymm h0 l0
              subst k0
              clear l0 h0
              clear hF hD
              have hu := A0.1
              refine ⟨_, _, by (go_simp; first | done | rfl | exact ⟨rfl, rfl⟩), ?_⟩
              refine (roles_any _).mono ?_
              rintro e w3 ⟨rfl, ht, hu2⟩
              exact ⟨_, rfl, trivial, hu.trans hu2, _, rfl, ht⟩
            · refine chain_is _ (.inl rfl) ⟨_, rfl⟩ (by kernel_rfl) rfl ?_
              intro a W kst l0 h0 A0 hF hD
              have e5 : a.tmps[5]?.getD undef = _ := (ev a 5).symm.trans (hF 5 (by kernel_rfl))
              clear hF hD
              go_simp
            · refine chain_is _ (.inl rfl) ⟨_, rfl⟩ (by kernel_rfl) rfl ?_
              intro a W kst l0 h0 A0 hF hD
              have e0 : a.tmps[0]?.getD undef = _ := (ev a 0).symm.trans (hF 0 (by kernel_rfl))
              clear hF hD
              go_simp
            · refine chain_is _ (.inl rfl) ⟨_, rfl⟩ (by kernel_rfl) rfl ?_
              intro a W kst l0 h0 A0 hF hD
              have e20 : a.tmps[20]?.getD undef = .pointer (some ⟨b, 0, none⟩) := (ev a 20).symm.trans (hD _ (Array.mem_of_getElem? (i := 0) rfl) rfl)
              clear hF hD
              go_simp
            · refine chain_is _ (.inl rfl) ⟨_, rfl⟩ (by kernel_rfl) rfl ?_
              intro a W kst l0 h0 A0 hF hD
              have e21 : a.tmps[21]?.getD undef = .pointer (some ⟨b, 0, none⟩) := (ev a 21).symm.trans (hD _ (Array.mem_of_getElem? (i := 0) rfl) rfl)
              clear hF hD
              go_simp
            · refine chain_is _ (.inl rfl) ⟨_, rfl⟩ (by kernel_rfl) rfl ?_
              intro a W kst l0 h0 A0 hF hD
              have e22 : a.tmps[22]?.getD undef = .pointer (some ⟨b, 3, none⟩) := (ev a 22).symm.trans (hD _ (Array.mem_of_getElem? (i := 0) rfl) rfl)
              clear hF hD
              have hu := A0.1
              obtain ⟨vw2, vg2, hb2⟩ := (HC2.out.upd hu).cells_
              have g3 := hb2.cell 3
              simp [K.cells] at g3
              go_simp
            · refine chain_is _ (.inl rfl) ⟨_, rfl⟩ (by kernel_rfl) rfl ?_
              intro a W kst l0 h0 A0 hF hD
              have e19 : a.tmps[19]?.getD undef = .int .i64 kd := (ev a 19).symm.trans (hD _ (Array.mem_of_getElem? (i := 0) rfl) rfl)
              have e23 : a.tmps[23]?.getD undef = .bool k.out := (ev a 23).symm.trans (hD _ (Array.mem_of_getElem? (i := 1) rfl) rfl)
              clear hF hD
              go_simp
            · refine chain_run (.inl rfl) ⟨_, rfl⟩ (by kernel_rfl) ?_
              intro a W kst l0 h0 A0 hF hD
              have k0 : kst = 1 := Nat.le_antisymm h0 l0
              subst k0
              clear l0 h0
              have e24 : a.tmps[24]?.getD undef = .agg #[.int .i64 kd, .bool k.out] := (ev a 24).symm.trans (hD _ (Array.mem_of_getElem? (i := 1) rfl) rfl)
              clear hF hD
              obtain ⟨hu, g, hg, ht⟩ := A0
              have e18 : a.tmps[18]?.getD undef = _ := (ev a 18).symm.trans hg
              have hz : (zeroValue 3).run Tryz.prog W = .ok (.int .i64 0) W := by kernel_rfl
              have hl := (ht.look roleTabV_fun role_key Tryz.underlying199 hz (kd, k.out)).2
              rw [role_look] at hl
              simp only [encRole] at hl
              exact ⟨_, W, by (go_simp; first | done | rfl | exact ⟨rfl, rfl⟩), trivial, hu, rfl⟩
            · refine chain_run (.inl rfl) ⟨_, rfl⟩ (by kernel_rfl) ?_
              intro a W kst l0 h0 A0 hF hD
              have k0 : kst = 2 := Nat.le_antisymm h0 l0
              subst k0
              clear l0 h0
              clear hF hD
              obtain ⟨hu, h1⟩ := A0
              have e25 : a.tmps[25]?.getD undef = _ := (ev a 25).symm.trans h1
              exact ⟨_, W, by (go_simp; first | done | rfl | exact ⟨rfl, rfl⟩), trivial, hu, rfl⟩
          intro vals W hv hA
          have v1 : vals 1 = .int .i64 kd := hv 1 (by decide)
          have v2 : vals 2 = .pointer (some ⟨b, 0, none⟩) := hv 2 (by decide)
          have v3 : vals 3 = .pointer (some ⟨b, 0, none⟩) := hv 3 (by decide)
          have v4 : vals 4 = .pointer (some ⟨b, 3, none⟩) := hv 4 (by decide)
          have v5 : vals 5 = .bool k.out := hv 5 (by decide)
          have v6 : vals 6 = .agg #[.int .i64 kd, .bool k.out] := hv 6 (by decide)
          clear hv
          obtain ⟨hu, h8⟩ := hA
          have h8 : vals 8 = .int .i64 (roleOf kd k.out) := h8
          rw [← HD.out] at h8
          simp only [putAll, Act.put, Nat.zero_add, Nat.reduceAdd, h8, v1, v2, v3, v4, v5, v6, List.setIfInBounds_toArray, List.set_cons_zero, List.set_cons_succ]
          clear v1 v2 v3 v4 v5 v6
          have HC4 := Lib.hid (HC2.out.upd hu)
          have HU4 : Hid (Upd [b] w W) := HU2.out.trans (hu.mono (by simp))
          have HL4 := Lib.hid (HL2.out.upd hu)
          have hb4 := HB2.out.upd hu (by simp)
          have q0 := hb4.cell 0
          have q1 := hb4.cell 1
          have q2 := hb4.cell 2
          have q3 := hb4.cell 3
          have q4 := hb4.cell 4
          simp at q0 q1 q2 q3 q4
          obtain ⟨vw4, vg4, hc4⟩ := HC4.out.cells_
          have g5 := hc4.cell 5
          have f5 := hc4.frozen 5
          have lt4 := hc4.lt
          simp [K.cells] at g5
          have hwl : w.heap.size < W.heap.size := hb4.lt
          clear hu h8 hb4 hc4 HB2 HC2 HU2 HL2
          go_wp2_with fail
          refine (check_any t s ns nr _ l _ HL4.out HS.out).mono ?_
          rintro e w5 ⟨rfl, hu5⟩
          have HC5 := Lib.hid (HC4.out.upd hu5)
          have HU5 : Hid (Upd [b] w w5) := HU4.out.trans (hu5.mono (by simp))
          have HL5 := Lib.hid (HL4.out.upd hu5)
          obtain ⟨vw5, vg5, hc5⟩ := HC5.out.cells_
          have g5b := hc5.cell 5
          have f5b := hc5.frozen 5
          simp [K.cells] at g5b
          have Q := fun (i : Nat) => hu5.cell (p := ⟨w.heap.size, i, none⟩) hwl (by simp)
          have p0 := (Q 0).trans q0
          have p1 := (Q 1).trans q1
          have p2 := (Q 2).trans q2
          have p3 := (Q 3).trans q3
          have p4 := (Q 4).trans q4
          have hlt5 := hc5.lt
          clear Q q0 q1 q2 q3 q4 hu5 g5 f5 hc5 lt4 hwl
          rw [← HCK.out]
          rw [tc]
          have HKS := Lib.hid (HC5.out.set 5 (.int .i64 4) (k' := { k with state := 4 }) (fun _ _ => rfl) rfl rfl)
          go_wp2_with fail
          go_ret
          rw [HG.out]
          exact ⟨⟨_, [], rfl, SaysN.nil _ _, HKS.out, HU5.out.setCell _ (.inl (by simp))⟩⟩
        · have HG : Hid (k.take l = k.handle kd d l) := by
            show _ = _
            unfold K.take
            rw [← HKD.out, ← HD.out, ← HCK.out]
            rw [if_neg t4, if_neg HNI.out, if_neg (by simp [tc]), if_neg tk]
          have tkb : (kd == 14) = false := by simpa using tk
          clear tk t4
          go_enter Tryz.func46, Tryz.ntmps46
          go_wp2_with fail
          refine (none_any b k _ HCB.out).mono ?_
          rintro e w1 ⟨rfl, rfl⟩
          rw [hm]
          go_wp2_with fail
          refine (kind_any t s ns nr _ l _ HLB.out HS.out).mono ?_
          rintro e w2 ⟨rfl, hu2⟩
          have HC2 := Lib.hid (HCB.out.upd hu2)
          have HU2 : Hid (Upd [b] w w2) := (((Upd.refl [] w).alloc _).trans hu2).mono (by simp)
          have HL2 := Lib.hid (HLB.out.upd hu2)
          have HB2 : Hid (Blk w2 w.heap.size 24 #[.int .i64 t, .int .i64 s, .int .i64 ns, .int .i64 nr, (.slice ao nl cap)]) := (Blk.new w 24 _).upd hu2 (by simp)
          clear hu2 g5
          rw [← HKD.out]
          go_upto_region 4 with (fail)
          refine wp_region_chain [none, some (.int .i64 kd), some (.pointer (some ⟨b, 0, none⟩)), some (.pointer (some ⟨b, 0, none⟩)), some (.pointer (some ⟨b, 3, none⟩)), some (.bool k.out), some (.agg #[.int .i64 kd, .bool k.out]), none, none] [0,7,8] (stageA w2 (takeR (roleOf kd k.out))) [(0, 0), (0, 1), (0, 1), (0, 1), (0, 1), (0, 1), (0, 1), (1, 1), (2, 2)] (by kernel_rfl) (by kernel_rfl) (by kernel_rfl) (by kernel_rfl) (by kernel_rfl) (by kernel_rfl) (⟨(Upd.refl [] _).drew, trivial⟩) ?_ ?_
          · refine StepsC.cons ?_ (StepsC.cons ?_ (StepsC.cons ?_ (StepsC.cons ?_ (StepsC.cons ?_ (StepsC.cons ?_ (StepsC.cons ?_ (StepsC.cons ?_ (StepsC.cons ?_ StepsC.nil))))))))
            · refine chain_call (.inl rfl) ⟨_, rfl⟩ (by kernel_rfl) ?_
              intro a W kst l0 h0 A0 hF hD
              have k0 : kst = 0 := Nat.le_antisymm h0 l0
              subst k0
              clear l0 h0
              clear hF hD
              have hu := A0.1
              refine ⟨_, _, by (go_simp; first | done | rfl | exact ⟨rfl, rfl⟩), ?_⟩
              refine (roles_any _).mono ?_
              rintro e w3 ⟨rfl, ht, hu2⟩
              exact ⟨_, rfl, trivial, hu.trans hu2, _, rfl, ht⟩
            · refine chain_is _ (.inl rfl) ⟨_, rfl⟩ (by kernel_rfl) rfl ?_
              intro a W kst l0 h0 A0 hF hD
              have e5 : a.tmps[5]?.getD undef = _ := (ev a 5).symm.trans (hF 5 (by kernel_rfl))
              clear hF hD
              go_simp
            · refine chain_is _ (.inl rfl) ⟨_, rfl⟩ (by kernel_rfl) rfl ?_
              intro a W kst l0 h0 A0 hF hD
              have e0 : a.tmps[0]?.getD undef = _ := (ev a 0).symm.trans (hF 0 (by kernel_rfl))
              clear hF hD
              go_simp
            · refine chain_is _ (.inl rfl) ⟨_, rfl⟩ (by kernel_rfl) rfl ?_
              intro a W kst l0 h0 A0 hF hD
              have e20 : a.tmps[20]?.getD undef = .pointer (some ⟨b, 0, none⟩) := (ev a 20).symm.trans (hD _ (Array.mem_of_getElem? (i := 0) rfl) rfl)
              clear hF hD
              go_simp
            · refine chain_is _ (.inl rfl) ⟨_, rfl⟩ (by kernel_rfl) rfl ?_
              intro a W kst l0 h0 A0 hF hD
              have e21 : a.tmps[21]?.getD undef = .pointer (some ⟨b, 0, none⟩) := (ev a 21).symm.trans (hD _ (Array.mem_of_getElem? (i := 0) rfl) rfl)
              clear hF hD
              go_simp
            · refine chain_is _ (.inl rfl) ⟨_, rfl⟩ (by kernel_rfl) rfl ?_
              intro a W kst l0 h0 A0 hF hD
              have e22 : a.tmps[22]?.getD undef = .pointer (some ⟨b, 3, none⟩) := (ev a 22).symm.trans (hD _ (Array.mem_of_getElem? (i := 0) rfl) rfl)
              clear hF hD
              have hu := A0.1
              obtain ⟨vw2, vg2, hb2⟩ := (HC2.out.upd hu).cells_
              have g3 := hb2.cell 3
              simp [K.cells] at g3
              go_simp
            · refine chain_is _ (.inl rfl) ⟨_, rfl⟩ (by kernel_rfl) rfl ?_
              intro a W kst l0 h0 A0 hF hD
              have e19 : a.tmps[19]?.getD undef = .int .i64 kd := (ev a 19).symm.trans (hD _ (Array.mem_of_getElem? (i := 0) rfl) rfl)
              have e23 : a.tmps[23]?.getD undef = .bool k.out := (ev a 23).symm.trans (hD _ (Array.mem_of_getElem? (i := 1) rfl) rfl)
              clear hF hD
              go_simp
            · refine chain_run (.inl rfl) ⟨_, rfl⟩ (by kernel_rfl) ?_
              intro a W kst l0 h0 A0 hF hD
              have k0 : kst = 1 := Nat.le_antisymm h0 l0
              subst k0
              clear l0 h0
              have e24 : a.tmps[24]?.getD undef = .agg #[.int .i64 kd, .bool k.out] := (ev a 24).symm.trans (hD _ (Array.mem_of_getElem? (i := 1) rfl) rfl)
              clear hF hD
              obtain ⟨hu, g, hg, ht⟩ := A0
              have e18 : a.tmps[18]?.getD undef = _ := (ev a 18).symm.trans hg
              have hz : (zeroValue 3).run Tryz.prog W = .ok (.int .i64 0) W := by kernel_rfl
              have hl := (ht.look roleTabV_fun role_key Tryz.underlying199 hz (kd, k.out)).2
              rw [role_look] at hl
              simp only [encRole] at hl
              exact ⟨_, W, by (go_simp; first | done | rfl | exact ⟨rfl, rfl⟩), trivial, hu, rfl⟩
            · refine chain_run (.inl rfl) ⟨_, rfl⟩ (by kernel_rfl) ?_
              intro a W kst l0 h0 A0 hF hD
              have k0 : kst = 2 := Nat.le_antisymm h0 l0
              subst k0
              clear l0 h0
              clear hF hD
              obtain ⟨hu, h1⟩ := A0
              have e25 : a.tmps[25]?.getD undef = _ := (ev a 25).symm.trans h1
              exact ⟨_, W, by (go_simp; first | done | rfl | exact ⟨rfl, rfl⟩), trivial, hu, rfl⟩
          intro vals W hv hA
          have v1 : vals 1 = .int .i64 kd := hv 1 (by decide)
          have v2 : vals 2 = .pointer (some ⟨b, 0, none⟩) := hv 2 (by decide)
          have v3 : vals 3 = .pointer (some ⟨b, 0, none⟩) := hv 3 (by decide)
          have v4 : vals 4 = .pointer (some ⟨b, 3, none⟩) := hv 4 (by decide)
          have v5 : vals 5 = .bool k.out := hv 5 (by decide)
          have v6 : vals 6 = .agg #[.int .i64 kd, .bool k.out] := hv 6 (by decide)
          clear hv
          obtain ⟨hu, h8⟩ := hA
          have h8 : vals 8 = .int .i64 (roleOf kd k.out) := h8
          rw [← HD.out] at h8
          simp only [putAll, Act.put, Nat.zero_add, Nat.reduceAdd, h8, v1, v2, v3, v4, v5, v6, List.setIfInBounds_toArray, List.set_cons_zero, List.set_cons_succ]
          clear v1 v2 v3 v4 v5 v6
          have HC4 := Lib.hid (HC2.out.upd hu)
          have HU4 : Hid (Upd [b] w W) := HU2.out.trans (hu.mono (by simp))
          have HL4 := Lib.hid (HL2.out.upd hu)
          have hb4 := HB2.out.upd hu (by simp)
          have q0 := hb4.cell 0
          have q1 := hb4.cell 1
          have q2 := hb4.cell 2
          have q3 := hb4.cell 3
          have q4 := hb4.cell 4
          simp at q0 q1 q2 q3 q4
          obtain ⟨vw4, vg4, hc4⟩ := HC4.out.cells_
          have g5 := hc4.cell 5
          have f5 := hc4.frozen 5
          have lt4 := hc4.lt
          simp [K.cells] at g5
          have hwl : w.heap.size < W.heap.size := hb4.lt
          clear hu h8 hb4 hc4 HB2 HC2 HU2 HL2
          go_wp2_with fail
          refine (check_any t s ns nr _ l _ HL4.out HS.out).mono ?_
          rintro e w5 ⟨rfl, hu5⟩
          have HC5 := Lib.hid (HC4.out.upd hu5)
          have HU5 : Hid (Upd [b] w w5) := HU4.out.trans (hu5.mono (by simp))
          have HL5 := Lib.hid (HL4.out.upd hu5)
          obtain ⟨vw5, vg5, hc5⟩ := HC5.out.cells_
          have g5b := hc5.cell 5
          have f5b := hc5.frozen 5
          simp [K.cells] at g5b
          have Q := fun (i : Nat) => hu5.cell (p := ⟨w.heap.size, i, none⟩) hwl (by simp)
          have p0 := (Q 0).trans q0
          have p1 := (Q 1).trans q1
          have p2 := (Q 2).trans q2
          have p3 := (Q 3).trans q3
          have p4 := (Q 4).trans q4
          have hlt5 := hc5.lt
          clear Q q0 q1 q2 q3 q4 hu5 g5 f5 hc5 lt4 hwl
          rw [← HCK.out]
          rw [tc]
          go_wp2_with fail
          refine (handle_any b k l kd d t s ns nr _ _ HC5.out HL5.out HS.out HOK.out hlen (fun W2 hw => HFAR.out _ (HU5.out.trans hw))).mono ?_
          rintro e w6 ⟨v6, own6, rfl, h1, h2, h3⟩
          have HX := Lib.hid (And.intro (h1.low HU5.out.size) (And.intro h2 (HU5.out.trans h3)))
          clear h1 h2 h3 g5b f5b p0 p1 p2 p3 p4
          go_wp2_with fail
          go_ret
          rw [HG.out]
          exact ⟨⟨_, own6, rfl, HX.out⟩⟩
      · have HG : Hid (k.take l = k.fin 2) := by
          show _ = _
          unfold K.take
          rw [← HKD.out, ← HD.out, ← HCK.out]
          rw [if_neg t4, if_neg HNI.out, if_pos tc]
        have tcb : (ck != 0) = true := by simpa using tc
        clear t4
        go_enter Tryz.func46, Tryz.ntmps46
        go_wp2_with fail
        refine (none_any b k _ HCB.out).mono ?_
        rintro e w1 ⟨rfl, rfl⟩
        rw [hm]
        go_wp2_with fail
        refine (kind_any t s ns nr _ l _ HLB.out HS.out).mono ?_
        rintro e w2 ⟨rfl, hu2⟩
        have HC2 := Lib.hid (HCB.out.upd hu2)
        have HU2 : Hid (Upd [b] w w2) := (((Upd.refl [] w).alloc _).trans hu2).mono (by simp)
        have HL2 := Lib.hid (HLB.out.upd hu2)
        have HB2 : Hid (Blk w2 w.heap.size 24 #[.int .i64 t, .int .i64 s, .int .i64 ns, .int .i64 nr, (.slice ao nl cap)]) := (Blk.new w 24 _).upd hu2 (by simp)
        clear hu2 g5
        rw [← HKD.out]
        go_upto_region 4 with (fail)
        refine wp_region_chain [none, some (.int .i64 kd), some (.pointer (some ⟨b, 0, none⟩)), some (.pointer (some ⟨b, 0, none⟩)), some (.pointer (some ⟨b, 3, none⟩)), some (.bool k.out), some (.agg #[.int .i64 kd, .bool k.out]), none, none] [0,7,8] (stageA w2 (takeR (roleOf kd k.out))) [(0, 0), (0, 1), (0, 1), (0, 1), (0, 1), (0, 1), (0, 1), (1, 1), (2, 2)] (by kernel_rfl) (by kernel_rfl) (by kernel_rfl) (by kernel_rfl) (by kernel_rfl) (by kernel_rfl) (⟨(Upd.refl [] _).drew, trivial⟩) ?_ ?_
        · refine StepsC.cons ?_ (StepsC.cons ?_ (StepsC.cons ?_ (StepsC.cons ?_ (StepsC.cons ?_ (StepsC.cons ?_ (StepsC.cons ?_ (StepsC.cons ?_ (StepsC.cons ?_ StepsC.nil))))))))
          · refine chain_call (.inl rfl) ⟨_, rfl⟩ (by kernel_rfl) ?_
            intro a W kst l0 h0 A0 hF hD
            have k0 : kst = 0 := Nat.le_antisymm h0 l0
            subst k0
            clear l0 h0
            clear hF hD
            have hu := A0.1
            refine ⟨_, _, by (go_simp; first | done | rfl | exact ⟨rfl, rfl⟩), ?_⟩
            refine (roles_any _).mono ?_
            rintro e w3 ⟨rfl, ht, hu2⟩
            exact ⟨_, rfl, trivial, hu.trans hu2, _, rfl, ht⟩
          · refine chain_is _ (.inl rfl) ⟨_, rfl⟩ (by kernel_rfl) rfl ?_
            intro a W kst l0 h0 A0 hF hD
            have e5 : a.tmps[5]?.getD undef = _ := (ev a 5).symm.trans (hF 5 (by kernel_rfl))
            clear hF hD
            go_simp
          · refine chain_is _ (.inl rfl) ⟨_, rfl⟩ (by kernel_rfl) rfl ?_
            intro a W kst l0 h0 A0 hF hD
            have e0 : a.tmps[0]?.getD undef = _ := (ev a 0).symm.trans (hF 0 (by kernel_rfl))
            clear hF hD
            go_simp
          · refine chain_is _ (.inl rfl) ⟨_, rfl⟩ (by kernel_rfl) rfl ?_
            intro a W kst l0 h0 A0 hF hD
            have e20 : a.tmps[20]?.getD undef = .pointer (some ⟨b, 0, none⟩) := (ev a 20).symm.trans (hD _ (Array.mem_of_getElem? (i := 0) rfl) rfl)
            clear hF hD
            go_simp
          · refine chain_is _ (.inl rfl) ⟨_, rfl⟩ (by kernel_rfl) rfl ?_
            intro a W kst l0 h0 A0 hF hD
            have e21 : a.tmps[21]?.getD undef = .pointer (some ⟨b, 0, none⟩) := (ev a 21).symm.trans (hD _ (Array.mem_of_getElem? (i := 0) rfl) rfl)
            clear hF hD
            go_simp
          · refine chain_is _ (.inl rfl) ⟨_, rfl⟩ (by kernel_rfl) rfl ?_
            intro a W kst l0 h0 A0 hF hD
            have e22 : a.tmps[22]?.getD undef = .pointer (some ⟨b, 3, none⟩) := (ev a 22).symm.trans (hD _ (Array.mem_of_getElem? (i := 0) rfl) rfl)
            clear hF hD
            have hu := A0.1
            obtain ⟨vw2, vg2, hb2⟩ := (HC2.out.upd hu).cells_
            have g3 := hb2.cell 3
            simp [K.cells] at g3
            go_simp
          · refine chain_is _ (.inl rfl) ⟨_, rfl⟩ (by kernel_rfl) rfl ?_
            intro a W kst l0 h0 A0 hF hD
            have e19 : a.tmps[19]?.getD undef = .int .i64 kd := (ev a 19).symm.trans (hD _ (Array.mem_of_getElem? (i := 0) rfl) rfl)
            have e23 : a.tmps[23]?.getD undef = .bool k.out := (ev a 23).symm.trans (hD _ (Array.mem_of_getElem? (i := 1) rfl) rfl)
            clear hF hD
            go_simp
          · refine chain_run (.inl rfl) ⟨_, rfl⟩ (by kernel_rfl) ?_
            intro a W kst l0 h0 A0 hF hD
            have k0 : kst = 1 := Nat.le_antisymm h0 l0
            subst k0
            clear l0 h0
            have e24 : a.tmps[24]?.getD undef = .agg #[.int .i64 kd, .bool k.out] := (ev a 24).symm.trans (hD _ (Array.mem_of_getElem? (i := 1) rfl) rfl)
            clear hF hD
            obtain ⟨hu, g, hg, ht⟩ := A0
            have e18 : a.tmps[18]?.getD undef = _ := (ev a 18).symm.trans hg
            have hz : (zeroValue 3).run Tryz.prog W = .ok (.int .i64 0) W := by kernel_rfl
            have hl := (ht.look roleTabV_fun role_key Tryz.underlying199 hz (kd, k.out)).2
            rw [role_look] at hl
            simp only [encRole] at hl
            exact ⟨_, W, by (go_simp; first | done | rfl | exact ⟨rfl, rfl⟩), trivial, hu, rfl⟩
          · refine chain_run (.inl rfl) ⟨_, rfl⟩ (by kernel_rfl) ?_
            intro a W kst l0 h0 A0 hF hD
            have k0 : kst = 2 := Nat.le_antisymm h0 l0
            subst k0
            clear l0 h0
            clear hF hD
            obtain ⟨hu, h1⟩ := A0
            have e25 : a.tmps[25]?.getD undef = _ := (ev a 25).symm.trans h1
            exact ⟨_, W, by (go_simp; first | done | rfl | exact ⟨rfl, rfl⟩), trivial, hu, rfl⟩
        intro vals W hv hA
        have v1 : vals 1 = .int .i64 kd := hv 1 (by decide)
        have v2 : vals 2 = .pointer (some ⟨b, 0, none⟩) := hv 2 (by decide)
        have v3 : vals 3 = .pointer (some ⟨b, 0, none⟩) := hv 3 (by decide)
        have v4 : vals 4 = .pointer (some ⟨b, 3, none⟩) := hv 4 (by decide)
        have v5 : vals 5 = .bool k.out := hv 5 (by decide)
        have v6 : vals 6 = .agg #[.int .i64 kd, .bool k.out] := hv 6 (by decide)
        clear hv
        obtain ⟨hu, h8⟩ := hA
        have h8 : vals 8 = .int .i64 (roleOf kd k.out) := h8
        rw [← HD.out] at h8
        simp only [putAll, Act.put, Nat.zero_add, Nat.reduceAdd, h8, v1, v2, v3, v4, v5, v6, List.setIfInBounds_toArray, List.set_cons_zero, List.set_cons_succ]
        clear v1 v2 v3 v4 v5 v6
        have HC4 := Lib.hid (HC2.out.upd hu)
        have HU4 : Hid (Upd [b] w W) := HU2.out.trans (hu.mono (by simp))
        have HL4 := Lib.hid (HL2.out.upd hu)
        have hb4 := HB2.out.upd hu (by simp)
        have q0 := hb4.cell 0
        have q1 := hb4.cell 1
        have q2 := hb4.cell 2
        have q3 := hb4.cell 3
        have q4 := hb4.cell 4
        simp at q0 q1 q2 q3 q4
        obtain ⟨vw4, vg4, hc4⟩ := HC4.out.cells_
        have g5 := hc4.cell 5
        have f5 := hc4.frozen 5
        have lt4 := hc4.lt
        simp [K.cells] at g5
        have hwl : w.heap.size < W.heap.size := hb4.lt
        clear hu h8 hb4 hc4 HB2 HC2 HU2 HL2
        go_wp2_with fail
        refine (check_any t s ns nr _ l _ HL4.out HS.out).mono ?_
        rintro e w5 ⟨rfl, hu5⟩
        have HC5 := Lib.hid (HC4.out.upd hu5)
        have HU5 : Hid (Upd [b] w w5) := HU4.out.trans (hu5.mono (by simp))
        have HL5 := Lib.hid (HL4.out.upd hu5)
        obtain ⟨vw5, vg5, hc5⟩ := HC5.out.cells_
        have g5b := hc5.cell 5
        have f5b := hc5.frozen 5
        simp [K.cells] at g5b
        have Q := fun (i : Nat) => hu5.cell (p := ⟨w.heap.size, i, none⟩) hwl (by simp)
        have p0 := (Q 0).trans q0
        have p1 := (Q 1).trans q1
        have p2 := (Q 2).trans q2
        have p3 := (Q 3).trans q3
        have p4 := (Q 4).trans q4
        have hlt5 := hc5.lt
        clear Q q0 q1 q2 q3 q4 hu5 g5 f5 hc5 lt4 hwl
        rw [← HCK.out]
        go_wp2_with fail
        refine (end_any b k 2 _ HC5.out).mono ?_
        rintro e w6 ⟨v6, own6, rfl, h1, h2, h3⟩
        have HX := Lib.hid (And.intro (h1.low HU5.out.size) (And.intro h2 (HU5.out.trans h3)))
        clear h1 h2 h3 g5b f5b p0 p1 p2 p3 p4
        go_wp2_with fail
        go_ret
        rw [HG.out]
        exact ⟨⟨_, own6, rfl, HX.out⟩⟩
    · have HG : Hid (k.take l = (k, [])) := by
        show _ = _
        unfold K.take
        rw [← HKD.out, ← HD.out, ← HCK.out]
        rw [if_neg t4, if_pos ⟨t0, t1⟩]
      have tb1 : (d != 1) = true := by simpa using t1
      clear t4 t0 t1
      go_enter Tryz.func46, Tryz.ntmps46
      go_wp2_with fail
      refine (none_any b k _ HCB.out).mono ?_
      rintro e w1 ⟨rfl, rfl⟩
      rw [hm]
      go_wp2_with fail
      refine (kind_any t s ns nr _ l _ HLB.out HS.out).mono ?_
      rintro e w2 ⟨rfl, hu2⟩
      have HC2 := Lib.hid (HCB.out.upd hu2)
      have HU2 : Hid (Upd [b] w w2) := (((Upd.refl [] w).alloc _).trans hu2).mono (by simp)
      have HL2 := Lib.hid (HLB.out.upd hu2)
      have HB2 : Hid (Blk w2 w.heap.size 24 #[.int .i64 t, .int .i64 s, .int .i64 ns, .int .i64 nr, (.slice ao nl cap)]) := (Blk.new w 24 _).upd hu2 (by simp)
      clear hu2 g5
      rw [← HKD.out]
      go_upto_region 4 with (fail)
      refine wp_region_chain [none, some (.int .i64 kd), some (.pointer (some ⟨b, 0, none⟩)), some (.pointer (some ⟨b, 0, none⟩)), some (.pointer (some ⟨b, 3, none⟩)), some (.bool k.out), some (.agg #[.int .i64 kd, .bool k.out]), none, none] [0,7,8] (stageA w2 (takeR (roleOf kd k.out))) [(0, 0), (0, 1), (0, 1), (0, 1), (0, 1), (0, 1), (0, 1), (1, 1), (2, 2)] (by kernel_rfl) (by kernel_rfl) (by kernel_rfl) (by kernel_rfl) (by kernel_rfl) (by kernel_rfl) (⟨(Upd.refl [] _).drew, trivial⟩) ?_ ?_
      · refine StepsC.cons ?_ (StepsC.cons ?_ (StepsC.cons ?_ (StepsC.cons ?_ (StepsC.cons ?_ (StepsC.cons ?_ (StepsC.cons ?_ (StepsC.cons ?_ (StepsC.cons ?_ StepsC.nil))))))))
        · refine chain_call (.inl rfl) ⟨_, rfl⟩ (by kernel_rfl) ?_
          intro a W kst l0 h0 A0 hF hD
          have k0 : kst = 0 := Nat.le_antisymm h0 l0
          subst k0
          clear l0 h0
          clear hF hD
          have hu := A0.1
          refine ⟨_, _, by (go_simp; first | done | rfl | exact ⟨rfl, rfl⟩), ?_⟩
          refine (roles_any _).mono ?_
          rintro e w3 ⟨rfl, ht, hu2⟩
          exact ⟨_, rfl, trivial, hu.trans hu2, _, rfl, ht⟩
        · refine chain_is _ (.inl rfl) ⟨_, rfl⟩ (by kernel_rfl) rfl ?_
          intro a W kst l0 h0 A0 hF hD
          have e5 : a.tmps[5]?.getD undef = _ := (ev a 5).symm.trans (hF 5 (by kernel_rfl))
          clear hF hD
          go_simp
        · refine chain_is _ (.inl rfl) ⟨_, rfl⟩ (by kernel_rfl) rfl ?_
          intro a W kst l0 h0 A0 hF hD
          have e0 : a.tmps[0]?.getD undef = _ := (ev a 0).symm.trans (hF 0 (by kernel_rfl))
          clear hF hD
          go_simp
        · refine chain_is _ (.inl rfl) ⟨_, rfl⟩ (by kernel_rfl) rfl ?_
          intro a W kst l0 h0 A0 hF hD
          have e20 : a.tmps[20]?.getD undef = .pointer (some ⟨b, 0, none⟩) := (ev a 20).symm.trans (hD _ (Array.mem_of_getElem? (i := 0) rfl) rfl)
          clear hF hD
          go_simp
        · refine chain_is _ (.inl rfl) ⟨_, rfl⟩ (by kernel_rfl) rfl ?_
          intro a W kst l0 h0 A0 hF hD
          have e21 : a.tmps[21]?.getD undef = .pointer (some ⟨b, 0, none⟩) := (ev a 21).symm.trans (hD _ (Array.mem_of_getElem? (i := 0) rfl) rfl)
          clear hF hD
          go_simp
        · refine chain_is _ (.inl rfl) ⟨_, rfl⟩ (by kernel_rfl) rfl ?_
          intro a W kst l0 h0 A0 hF hD
          have e22 : a.tmps[22]?.getD undef = .pointer (some ⟨b, 3, none⟩) := (ev a 22).symm.trans (hD _ (Array.mem_of_getElem? (i := 0) rfl) rfl)
          clear hF hD
          have hu := A0.1
          obtain ⟨vw2, vg2, hb2⟩ := (HC2.out.upd hu).cells_
          have g3 := hb2.cell 3
          simp [K.cells] at g3
          go_simp
        · refine chain_is _ (.inl rfl) ⟨_, rfl⟩ (by kernel_rfl) rfl ?_
          intro a W kst l0 h0 A0 hF hD
          have e19 : a.tmps[19]?.getD undef = .int .i64 kd := (ev a 19).symm.trans (hD _ (Array.mem_of_getElem? (i := 0) rfl) rfl)
          have e23 : a.tmps[23]?.getD undef = .bool k.out := (ev a 23).symm.trans (hD _ (Array.mem_of_getElem? (i := 1) rfl) rfl)
          clear hF hD
          go_simp
        · refine chain_run (.inl rfl) ⟨_, rfl⟩ (by kernel_rfl) ?_
          intro a W kst l0 h0 A0 hF hD
          have k0 : kst = 1 := Nat.le_antisymm h0 l0
          subst k0
          clear l0 h0
          have e24 : a.tmps[24]?.getD undef = .agg #[.int .i64 kd, .bool k.out] := (ev a 24).symm.trans (hD _ (Array.mem_of_getElem? (i := 1) rfl) rfl)
          clear hF hD
          obtain ⟨hu, g, hg, ht⟩ := A0
          have e18 : a.tmps[18]?.getD undef = _ := (ev a 18).symm.trans hg
          have hz : (zeroValue 3).run Tryz.prog W = .ok (.int .i64 0) W := by kernel_rfl
          have hl := (ht.look roleTabV_fun role_key Tryz.underlying199 hz (kd, k.out)).2
          rw [role_look] at hl
          simp only [encRole] at hl
          exact ⟨_, W, by (go_simp; first | done | rfl | exact ⟨rfl, rfl⟩), trivial, hu, rfl⟩
        · refine chain_run (.inl rfl) ⟨_, rfl⟩ (by kernel_rfl) ?_
          intro a W kst l0 h0 A0 hF hD
          have k0 : kst = 2 := Nat.le_antisymm h0 l0
          subst k0
          clear l0 h0
          clear hF hD
          obtain ⟨hu, h1⟩ := A0
          have e25 : a.tmps[25]?.getD undef = _ := (ev a 25).symm.trans h1
          exact ⟨_, W, by (go_simp; first | done | rfl | exact ⟨rfl, rfl⟩), trivial, hu, rfl⟩
      intro vals W hv hA
      have v1 : vals 1 = .int .i64 kd := hv 1 (by decide)
      have v2 : vals 2 = .pointer (some ⟨b, 0, none⟩) := hv 2 (by decide)
      have v3 : vals 3 = .pointer (some ⟨b, 0, none⟩) := hv 3 (by decide)
      have v4 : vals 4 = .pointer (some ⟨b, 3, none⟩) := hv 4 (by decide)
      have v5 : vals 5 = .bool k.out := hv 5 (by decide)
      have v6 : vals 6 = .agg #[.int .i64 kd, .bool k.out] := hv 6 (by decide)
      clear hv
      obtain ⟨hu, h8⟩ := hA
      have h8 : vals 8 = .int .i64 (roleOf kd k.out) := h8
      rw [← HD.out] at h8
      simp only [putAll, Act.put, Nat.zero_add, Nat.reduceAdd, h8, v1, v2, v3, v4, v5, v6, List.setIfInBounds_toArray, List.set_cons_zero, List.set_cons_succ]
      clear v1 v2 v3 v4 v5 v6
      have HC4 := Lib.hid (HC2.out.upd hu)
      have HU4 : Hid (Upd [b] w W) := HU2.out.trans (hu.mono (by simp))
      have HL4 := Lib.hid (HL2.out.upd hu)
      have hb4 := HB2.out.upd hu (by simp)
      have q0 := hb4.cell 0
      have q1 := hb4.cell 1
      have q2 := hb4.cell 2
      have q3 := hb4.cell 3
      have q4 := hb4.cell 4
      simp at q0 q1 q2 q3 q4
      obtain ⟨vw4, vg4, hc4⟩ := HC4.out.cells_
      have g5 := hc4.cell 5
      have f5 := hc4.frozen 5
      have lt4 := hc4.lt
      simp [K.cells] at g5
      have hwl : w.heap.size < W.heap.size := hb4.lt
      clear hu h8 hb4 hc4 HB2 HC2 HU2 HL2
      go_wp2_with fail
      go_ret
      rw [HG.out]
      exact ⟨⟨_, [], rfl, SaysN.nil _ _, HC4.out, HU4.out⟩⟩
  · have tb0 : (k.state == 0) = false := by simpa using t0
    have HNI : Hid (¬ (k.state = 0 ∧ d ≠ 1)) := by show ¬ _; simp [t0]
    clear t0
    by_cases tc : ck = 0
    · by_cases tk : kd = 14
      · have HG : Hid (k.take l = ({ k with state := 4 }, [])) := by
          show _ = _
          unfold K.take
          rw [← HKD.out, ← HD.out, ← HCK.out]
          rw [if_neg t4, if_neg HNI.out, if_neg (by simp [tc]), if_pos tk]
        have tkb : (kd == 14) = true := by simpa using tk
        have HT := Lib.hid tk
        clear tk t4
        go_enter Tryz.func46, Tryz.ntmps46
        go_wp2_with fail
        refine (none_any b k _ HCB.out).mono ?_
        rintro e w1 ⟨rfl, rfl⟩
        rw [hm]
        go_wp2_with fail
        refine (kind_any t s ns nr _ l _ HLB.out HS.out).mono ?_
        rintro e w2 ⟨rfl, hu2⟩
        have HC2 := Lib.hid (HCB.out.upd hu2)
        have HU2 : Hid (Upd [b] w w2) := (((Upd.refl [] w).alloc _).trans hu2).mono (by simp)
        have HL2 := Lib.hid (HLB.out.upd hu2)
        have HB2 : Hid (Blk w2 w.heap.size 24 #[.int .i64 t, .int .i64 s, .int .i64 ns, .int .i64 nr, (.slice ao nl cap)]) := (Blk.new w 24 _).upd hu2 (by simp)
        clear hu2 g5
        rw [← HKD.out]
        go_upto_region 4 with (fail)
        refine wp_region_chain [none, some (.int .i64 kd), some (.pointer (some ⟨b, 0, none⟩)), some (.pointer (some ⟨b, 0, none⟩)), some (.pointer (some ⟨b, 3, none⟩)), some (.bool k.out), some (.agg #[.int .i64 kd, .bool k.out]), none, none] [0,7,8] (stageA w2 (takeR (roleOf kd k.out))) [(0, 0), (0, 1), (0, 1), (0, 1), (0, 1), (0, 1), (0, 1), (1, 1), (2, 2)] (by kernel_rfl) (by kernel_rfl) (by kernel_rfl) (by kernel_rfl) (by kernel_rfl) (by kernel_rfl) (⟨(Upd.refl [] _).drew, trivial⟩) ?_ ?_
        · refine StepsC.cons ?_ (StepsC.cons ?_ (StepsC.cons ?_ (StepsC.cons ?_ (StepsC.cons ?_ (StepsC.cons ?_ (StepsC.cons ?_ (StepsC.cons ?_ (StepsC.cons ?_ StepsC.nil))))))))
          · refine chain_call (.inl rfl) ⟨_, rfl⟩ (by kernel_rfl) ?_
            intro a W kst l0 h0 A0 hF hD
            have k0 : kst = 0 := Nat.le_antisymm h0 l0
            subst k0
            clear l0 h0
            clear hF hD
            have hu := A0.1
            refine ⟨_, _, by (go_simp; first | done | rfl | exact ⟨rfl, rfl⟩), ?_⟩
            refine (roles_any _).mono ?_
            rintro e w3 ⟨rfl, ht, hu2⟩
            exact ⟨_, rfl, trivial, hu.trans hu2, _, rfl, ht⟩
          · refine chain_is _ (.inl rfl) ⟨_, rfl⟩ (by kernel_rfl) rfl ?_
            intro a W kst l0 h0 A0 hF hD
            have e5 : a.tmps[5]?.getD undef = _ := (ev a 5).symm.trans (hF 5 (by kernel_rfl))
            clear hF hD
            go_simp
          · refine chain_is _ (.inl rfl) ⟨_, rfl⟩ (by kernel_rfl) rfl ?_
            intro a W kst l0 h0 A0 hF hD
            have e0 : a.tmps[0]?.getD undef = _ := (ev a 0).symm.trans (hF 0 (by kernel_rfl))
            clear hF hD
            go_simp
          · refine chain_is _ (.inl rfl) ⟨_, rfl⟩ (by kernel_rfl) rfl ?_
            intro a W kst l0 h0 A0 hF hD
            have e20 : a.tmps[20]?.getD undef = .pointer (some ⟨b, 0, none⟩) := (ev a 20).symm.trans (hD _ (Array.mem_of_getElem? (i := 0) rfl) rfl)
            clear hF hD
            go_simp
          · refine chain_is _ (.inl rfl) ⟨_, rfl⟩ (by kernel_rfl) rfl ?_
            intro a W kst l0 h0 A0 hF hD
            have e21 : a.tmps[21]?.getD undef = .pointer (some ⟨b, 0, none⟩) := (ev a 21).symm.trans (hD _ (Array.mem_of_getElem? (i := 0) rfl) rfl)
            clear hF hD
            go_simp
          · refine chain_is _ (.inl rfl) ⟨_, rfl⟩ (by kernel_rfl) rfl ?_
            intro a W kst l0 h0 A0 hF hD
            have e22 : a.tmps[22]?.getD undef = .pointer (some ⟨b, 3, none⟩) := (ev a 22).symm.trans (hD _ (Array.mem_of_getElem? (i := 0) rfl) rfl)
            clear hF hD
            have hu := A0.1
            obtain ⟨vw2, vg2, hb2⟩ := (HC2.out.upd hu).cells_
            have g3 := hb2.cell 3
            simp [K.cells] at g3
            go_simp
          · refine chain_is _ (.inl rfl) ⟨_, rfl⟩ (by kernel_rfl) rfl ?_
            intro a W kst l0 h0 A0 hF hD
            have e19 : a.tmps[19]?.getD undef = .int .i64 kd := (ev a 19).symm.trans (hD _ (Array.mem_of_getElem? (i := 0) rfl) rfl)
            have e23 : a.tmps[23]?.getD undef = .bool k.out := (ev a 23).symm.trans (hD _ (Array.mem_of_getElem? (i := 1) rfl) rfl)
            clear hF hD
            go_simp
          · refine chain_run (.inl rfl) ⟨_, rfl⟩ (by kernel_rfl) ?_
            intro a W kst l0 h0 A0 hF hD
            have k0 : kst = 1 := Nat.le_antisymm h0 l0
            subst k0
            clear l0 h0
            have e24 : a.tmps[24]?.getD undef = .agg #[.int .i64 kd, .bool k.out] := (ev a 24).symm.trans (hD _ (Array.mem_of_getElem? (i := 1) rfl) rfl)
            clear hF hD
            obtain ⟨hu, g, hg, ht⟩ := A0
            have e18 : a.tmps[18]?.getD undef = _ := (ev a 18).symm.trans hg
            have hz : (zeroValue 3).run Tryz.prog W = .ok (.int .i64 0) W := by kernel_rfl
            have hl := (ht.look roleTabV_fun role_key Tryz.underlying199 hz (kd, k.out)).2
            rw [role_look] at hl
            simp only [encRole] at hl
            exact ⟨_, W, by (go_simp; first | done | rfl | exact ⟨rfl, rfl⟩), trivial, hu, rfl⟩
          · refine chain_run (.inl rfl) ⟨_, rfl⟩ (by kernel_rfl) ?_
            intro a W kst l0 h0 A0 hF hD
            have k0 : kst = 2 := Nat.le_antisymm h0 l0
            subst k0
            clear l0 h0
            clear hF hD
            obtain ⟨hu, h1⟩ := A0
            have e25 : a.tmps[25]?.getD undef = _ := (ev a 25).symm.trans h1
            exact ⟨_, W, by (go_simp; first | done | rfl | exact ⟨rfl, rfl⟩), trivial, hu, rfl⟩
        intro vals W hv hA
        have v1 : vals 1 = .int .i64 kd := hv 1 (by decide)
        have v2 : vals 2 = .pointer (some ⟨b, 0, none⟩) := hv 2 (by decide)
        have v3 : vals 3 = .pointer (some ⟨b, 0, none⟩) := hv 3 (by decide)
        have v4 : vals 4 = .pointer (some ⟨b, 3, none⟩) := hv 4 (by decide)
        have v5 : vals 5 = .bool k.out := hv 5 (by decide)
        have v6 : vals 6 = .agg #[.int .i64 kd, .bool k.out] := hv 6 (by decide)
        clear hv
        obtain ⟨hu, h8⟩ := hA
        have h8 : vals 8 = .int .i64 (roleOf kd k.out) := h8
        rw [← HD.out] at h8
        simp only [putAll, Act.put, Nat.zero_add, Nat.reduceAdd, h8, v1, v2, v3, v4, v5, v6, List.setIfInBounds_toArray, List.set_cons_zero, List.set_cons_succ]
        clear v1 v2 v3 v4 v5 v6
        have HC4 := Lib.hid (HC2.out.upd hu)
        have HU4 : Hid (Upd [b] w W) := HU2.out.trans (hu.mono (by simp))
        have HL4 := Lib.hid (HL2.out.upd hu)
        have hb4 := HB2.out.upd hu (by simp)
        have q0 := hb4.cell 0
        have q1 := hb4.cell 1
        have q2 := hb4.cell 2
        have q3 := hb4.cell 3
        have q4 := hb4.cell 4
        simp at q0 q1 q2 q3 q4
        obtain ⟨vw4, vg4, hc4⟩ := HC4.out.cells_
        have g5 := hc4.cell 5
        have f5 := hc4.frozen 5
        have lt4 := hc4.lt
        simp [K.cells] at g5
        have hwl : w.heap.size < W.heap.size := hb4.lt
        clear hu h8 hb4 hc4 HB2 HC2 HU2 HL2
        go_wp2_with fail
        refine (check_any t s ns nr _ l _ HL4.out HS.out).mono ?_
        rintro e w5 ⟨rfl, hu5⟩
        have HC5 := Lib.hid (HC4.out.upd hu5)
        have HU5 : Hid (Upd [b] w w5) := HU4.out.trans (hu5.mono (by simp))
        have HL5 := Lib.hid (HL4.out.upd hu5)
        obtain ⟨vw5, vg5, hc5⟩ := HC5.out.cells_
        have g5b := hc5.cell 5
        have f5b := hc5.frozen 5
        simp [K.cells] at g5b
        have Q := fun (i : Nat) => hu5.cell (p := ⟨w.heap.size, i, none⟩) hwl (by simp)
        have p0 := (Q 0).trans q0
        have p1 := (Q 1).trans q1
        have p2 := (Q 2).trans q2
        have p3 := (Q 3).trans q3
        have p4 := (Q 4).trans q4
        have hlt5 := hc5.lt
        clear Q q0 q1 q2 q3 q4 hu5 g5 f5 hc5 lt4 hwl
        rw [← HCK.out]
        rw [tc]
        have HKS := Lib.hid (HC5.out.set 5 (.int .i64 4) (k' := { k with state := 4 }) (fun _ _ => rfl) rfl rfl)
        go_wp2_with fail
        go_ret
        rw [HG.out]
        exact ⟨⟨_, [], rfl, SaysN.nil _ _, HKS.out, HU5.out.setCell _ (.inl (by simp))⟩⟩
      · have HG : Hid (k.take l = k.handle kd d l) := by
          show _ = _
          unfold K.take
          rw [← HKD.out, ← HD.out, ← HCK.out]
          rw [if_neg t4, if_neg HNI.out, if_neg (by simp [tc]), if_neg tk]
        have tkb : (kd == 14) = false := by simpa using tk
        clear tk t4
        go_enter Tryz.func46, Tryz.ntmps46
        go_wp2_with fail
        refine (none_any b k _ HCB.out).mono ?_
        rintro e w1 ⟨rfl, rfl⟩
        rw [hm]
        go_wp2_with fail
        refine (kind_any t s ns nr _ l _ HLB.out HS.out).mono ?_
        rintro e w2 ⟨rfl, hu2⟩
        have HC2 := Lib.hid (HCB.out.upd hu2)
        have HU2 : Hid (Upd [b] w w2) := (((Upd.refl [] w).alloc _).trans hu2).mono (by simp)
        have HL2 := Lib.hid (HLB.out.upd hu2)
        have HB2 : Hid (Blk w2 w.heap.size 24 #[.int .i64 t, .int .i64 s, .int .i64 ns, .int .i64 nr, (.slice ao nl cap)]) := (Blk.new w 24 _).upd hu2 (by simp)
        clear hu2 g5
        rw [← HKD.out]
        go_upto_region 4 with (fail)
        refine wp_region_chain [none, some (.int .i64 kd), some (.pointer (some ⟨b, 0, none⟩)), some (.pointer (some ⟨b, 0, none⟩)), some (.pointer (some ⟨b, 3, none⟩)), some (.bool k.out), some (.agg #[.int .i64 kd, .bool k.out]), none, none] [0,7,8] (stageA w2 (takeR (roleOf kd k.out))) [(0, 0), (0, 1), (0, 1), (0, 1), (0, 1), (0, 1), (0, 1), (1, 1), (2, 2)] (by kernel_rfl) (by kernel_rfl) (by kernel_rfl) (by kernel_rfl) (by kernel_rfl) (by kernel_rfl) (⟨(Upd.refl [] _).drew, trivial⟩) ?_ ?_
        · refine StepsC.cons ?_ (StepsC.cons ?_ (StepsC.cons ?_ (StepsC.cons ?_ (StepsC.cons ?_ (StepsC.cons ?_ (StepsC.cons ?_ (StepsC.cons ?_ (StepsC.cons ?_ StepsC.nil))))))))
          · refine chain_call (.inl rfl) ⟨_, rfl⟩ (by kernel_rfl) ?_
            intro a W kst l0 h0 A0 hF hD
            have k0 : kst = 0 := Nat.le_antisymm h0 l0
            subst k0
            clear l0 h0
            clear hF hD
            have hu := A0.1
            refine ⟨_, _, by (go_simp; first | done | rfl | exact ⟨rfl, rfl⟩), ?_⟩
            refine (roles_any _).mono ?_
            rintro e w3 ⟨rfl, ht, hu2⟩
            exact ⟨_, rfl, trivial, hu.trans hu2, _, rfl, ht⟩
          · refine chain_is _ (.inl rfl) ⟨_, rfl⟩ (by kernel_rfl) rfl ?_
            intro a W kst l0 h0 A0 hF hD
            have e5 : a.tmps[5]?.getD undef = _ := (ev a 5).symm.trans (hF 5 (by kernel_rfl))
            clear hF hD
            go_simp
          · refine chain_is _ (.inl rfl) ⟨_, rfl⟩ (by kernel_rfl) rfl ?_
            intro a W kst l0 h0 A0 hF hD
            have e0 : a.tmps[0]?.getD undef = _ := (ev a 0).symm.trans (hF 0 (by kernel_rfl))
            clear hF hD
            go_simp
          · refine chain_is _ (.inl rfl) ⟨_, rfl⟩ (by kernel_rfl) rfl ?_
            intro a W kst l0 h0 A0 hF hD
            have e20 : a.tmps[20]?.getD undef = .pointer (some ⟨b, 0, none⟩) := (ev a 20).symm.trans (hD _ (Array.mem_of_getElem? (i := 0) rfl) rfl)
            clear hF hD
            go_simp
          · refine chain_is _ (.inl rfl) ⟨_, rfl⟩ (by kernel_rfl) rfl ?_
            intro a W kst l0 h0 A0 hF hD
            have e21 : a.tmps[21]?.getD undef = .pointer (some ⟨b, 0, none⟩) := (ev a 21).symm.trans (hD _ (Array.mem_of_getElem? (i := 0) rfl) rfl)
            clear hF hD
            go_simp
          · refine chain_is _ (.inl rfl) ⟨_, rfl⟩ (by kernel_rfl) rfl ?_
            intro a W kst l0 h0 A0 hF hD
            have e22 : a.tmps[22]?.getD undef = .pointer (some ⟨b, 3, none⟩) := (ev a 22).symm.trans (hD _ (Array.mem_of_getElem? (i := 0) rfl) rfl)
            clear hF hD
            have hu := A0.1
            obtain ⟨vw2, vg2, hb2⟩ := (HC2.out.upd hu).cells_
            have g3 := hb2.cell 3
            simp [K.cells] at g3
            go_simp
          · refine chain_is _ (.inl rfl) ⟨_, rfl⟩ (by kernel_rfl) rfl ?_
            intro a W kst l0 h0 A0 hF hD
            have e19 : a.tmps[19]?.getD undef = .int .i64 kd := (ev a 19).symm.trans (hD _ (Array.mem_of_getElem? (i := 0) rfl) rfl)
            have e23 : a.tmps[23]?.getD undef = .bool k.out := (ev a 23).symm.trans (hD _ (Array.mem_of_getElem? (i := 1) rfl) rfl)
            clear hF hD
            go_simp
          · refine chain_run (.inl rfl) ⟨_, rfl⟩ (by kernel_rfl) ?_
            intro a W kst l0 h0 A0 hF hD
            have k0 : kst = 1 := Nat.le_antisymm h0 l0
            subst k0
            clear l0 h0
            have e24 : a.tmps[24]?.getD undef = .agg #[.int .i64 kd, .bool k.out] := (ev a 24).symm.trans (hD _ (Array.mem_of_getElem? (i := 1) rfl) rfl)
            clear hF hD
            obtain ⟨hu, g, hg, ht⟩ := A0
            have e18 : a.tmps[18]?.getD undef = _ := (ev a 18).symm.trans hg
            have hz : (zeroValue 3).run Tryz.prog W = .ok (.int .i64 0) W := by kernel_rfl
            have hl := (ht.look roleTabV_fun role_key Tryz.underlying199 hz (kd, k.out)).2
            rw [role_look] at hl
            simp only [encRole] at hl
            exact ⟨_, W, by (go_simp; first | done | rfl | exact ⟨rfl, rfl⟩), trivial, hu, rfl⟩
          · refine chain_run (.inl rfl) ⟨_, rfl⟩ (by kernel_rfl) ?_
            intro a W kst l0 h0 A0 hF hD
            have k0 : kst = 2 := Nat.le_antisymm h0 l0
            subst k0
            clear l0 h0
            clear hF hD
            obtain ⟨hu, h1⟩ := A0
            have e25 : a.tmps[25]?.getD undef = _ := (ev a 25).symm.trans h1
            exact ⟨_, W, by (go_simp; first | done | rfl | exact ⟨rfl, rfl⟩), trivial, hu, rfl⟩
        intro vals W hv hA
        have v1 : vals 1 = .int .i64 kd := hv 1 (by decide)
        have v2 : vals 2 = .pointer (some ⟨b, 0, none⟩) := hv 2 (by decide)
        have v3 : vals 3 = .pointer (some ⟨b, 0, none⟩) := hv 3 (by decide)
        have v4 : vals 4 = .pointer (some ⟨b, 3, none⟩) := hv 4 (by decide)
        have v5 : vals 5 = .bool k.out := hv 5 (by decide)
        have v6 : vals 6 = .agg #[.int .i64 kd, .bool k.out] := hv 6 (by decide)
        clear hv
        obtain ⟨hu, h8⟩ := hA
        have h8 : vals 8 = .int .i64 (roleOf kd k.out) := h8
        rw [← HD.out] at h8
        simp only [putAll, Act.put, Nat.zero_add, Nat.reduceAdd, h8, v1, v2, v3, v4, v5, v6, List.setIfInBounds_toArray, List.set_cons_zero, List.set_cons_succ]
        clear v1 v2 v3 v4 v5 v6
        have HC4 := Lib.hid (HC2.out.upd hu)
        have HU4 : Hid (Upd [b] w W) := HU2.out.trans (hu.mono (by simp))
        have HL4 := Lib.hid (HL2.out.upd hu)
        have hb4 := HB2.out.upd hu (by simp)
        have q0 := hb4.cell 0
        have q1 := hb4.cell 1
        have q2 := hb4.cell 2
        have q3 := hb4.cell 3
        have q4 := hb4.cell 4
        simp at q0 q1 q2 q3 q4
        obtain ⟨vw4, vg4, hc4⟩ := HC4.out.cells_
        have g5 := hc4.cell 5
        have f5 := hc4.frozen 5
        have lt4 := hc4.lt
        simp [K.cells] at g5
        have hwl : w.heap.size < W.heap.size := hb4.lt
        clear hu h8 hb4 hc4 HB2 HC2 HU2 HL2
        go_wp2_with fail
        refine (check_any t s ns nr _ l _ HL4.out HS.out).mono ?_
        rintro e w5 ⟨rfl, hu5⟩
        have HC5 := Lib.hid (HC4.out.upd hu5)
        have HU5 : Hid (Upd [b] w w5) := HU4.out.trans (hu5.mono (by simp))
        have HL5 := Lib.hid (HL4.out.upd hu5)
        obtain ⟨vw5, vg5, hc5⟩ := HC5.out.cells_
        have g5b := hc5.cell 5
        have f5b := hc5.frozen 5
        simp [K.cells] at g5b
        have Q := fun (i : Nat) => hu5.cell (p := ⟨w.heap.size, i, none⟩) hwl (by simp)
        have p0 := (Q 0).trans q0
        have p1 := (Q 1).trans q1
        have p2 := (Q 2).trans q2
        have p3 := (Q 3).trans q3
        have p4 := (Q 4).trans q4
        have hlt5 := hc5.lt
        clear Q q0 q1 q2 q3 q4 hu5 g5 f5 hc5 lt4 hwl
        rw [← HCK.out]
        rw [tc]
        go_wp2_with fail
        refine (handle_any b k l kd d t s ns nr _ _ HC5.out HL5.out HS.out HOK.out hlen (fun W2 hw => HFAR.out _ (HU5.out.trans hw))).mono ?_
        rintro e w6 ⟨v6, own6, rfl, h1, h2, h3⟩
        have HX := Lib.hid (And.intro (h1.low HU5.out.size) (And.intro h2 (HU5.out.trans h3)))
        clear h1 h2 h3 g5b f5b p0 p1 p2 p3 p4
        go_wp2_with fail
        go_ret
        rw [HG.out]
        exact ⟨⟨_, own6, rfl, HX.out⟩⟩
    · have HG : Hid (k.take l = k.fin 2) := by
        show _ = _
        unfold K.take
        rw [← HKD.out, ← HD.out, ← HCK.out]
        rw [if_neg t4, if_neg HNI.out, if_pos tc]
      have tcb : (ck != 0) = true := by simpa using tc
      clear t4
      go_enter Tryz.func46, Tryz.ntmps46
      go_wp2_with fail
      refine (none_any b k _ HCB.out).mono ?_
      rintro e w1 ⟨rfl, rfl⟩
      rw [hm]
      go_wp2_with fail
      refine (kind_any t s ns nr _ l _ HLB.out HS.out).mono ?_
      rintro e w2 ⟨rfl, hu2⟩
      have HC2 := Lib.hid (HCB.out.upd hu2)
      have HU2 : Hid (Upd [b] w w2) := (((Upd.refl [] w).alloc _).trans hu2).mono (by simp)
      have HL2 := Lib.hid (HLB.out.upd hu2)
      have HB2 : Hid (Blk w2 w.heap.size 24 #[.int .i64 t, .int .i64 s, .int .i64 ns, .int .i64 nr, (.slice ao nl cap)]) := (Blk.new w 24 _).upd hu2 (by simp)
      clear hu2 g5
      rw [← HKD.out]
      go_upto_region 4 with (fail)
      refine wp_region_chain [none, some (.int .i64 kd), some (.pointer (some ⟨b, 0, none⟩)), some (.pointer (some ⟨b, 0, none⟩)), some (.pointer (some ⟨b, 3, none⟩)), some (.bool k.out), some (.agg #[.int .i64 kd, .bool k.out]), none, none] [0,7,8] (stageA w2 (takeR (roleOf kd k.out))) [(0, 0), (0, 1), (0, 1), (0, 1), (0, 1), (0, 1), (0, 1), (1, 1), (2, 2)] (by kernel_rfl) (by kernel_rfl) (by kernel_rfl) (by kernel_rfl) (by kernel_rfl) (by kernel_rfl) (⟨(Upd.refl [] _).drew, trivial⟩) ?_ ?_
      · refine StepsC.cons ?_ (StepsC.cons ?_ (StepsC.cons ?_ (StepsC.cons ?_ (StepsC.cons ?_ (StepsC.cons ?_ (StepsC.cons ?_ (StepsC.cons ?_ (StepsC.cons ?_ StepsC.nil))))))))
        · refine chain_call (.inl rfl) ⟨_, rfl⟩ (by kernel_rfl) ?_
          intro a W kst l0 h0 A0 hF hD
          have k0 : kst = 0 := Nat.le_antisymm h0 l0
          subst k0
          clear l0 h0
          clear hF hD
          have hu := A0.1
          refine ⟨_, _, by (go_simp; first | done | rfl | exact ⟨rfl, rfl⟩), ?_⟩
          refine (roles_any _).mono ?_
          rintro e w3 ⟨rfl, ht, hu2⟩
          exact ⟨_, rfl, trivial, hu.trans hu2, _, rfl, ht⟩
        · refine chain_is _ (.inl rfl) ⟨_, rfl⟩ (by kernel_rfl) rfl ?_
          intro a W kst l0 h0 A0 hF hD
          have e5 : a.tmps[5]?.getD undef = _ := (ev a 5).symm.trans (hF 5 (by kernel_rfl))
          clear hF hD
          go_simp
        · refine chain_is _ (.inl rfl) ⟨_, rfl⟩ (by kernel_rfl) rfl ?_
          intro a W kst l0 h0 A0 hF hD
          have e0 : a.tmps[0]?.getD undef = _ := (ev a 0).symm.trans (hF 0 (by kernel_rfl))
          clear hF hD
          go_simp
        · refine chain_is _ (.inl rfl) ⟨_, rfl⟩ (by kernel_rfl) rfl ?_
          intro a W kst l0 h0 A0 hF hD
          have e20 : a.tmps[20]?.getD undef = .pointer (some ⟨b, 0, none⟩) := (ev a 20).symm.trans (hD _ (Array.mem_of_getElem? (i := 0) rfl) rfl)
          clear hF hD
          go_simp
        · refine chain_is _ (.inl rfl) ⟨_, rfl⟩ (by kernel_rfl) rfl ?_
          intro a W kst l0 h0 A0 hF hD
          have e21 : a.tmps[21]?.getD undef = .pointer (some ⟨b, 0, none⟩) := (ev a 21).symm.trans (hD _ (Array.mem_of_getElem? (i := 0) rfl) rfl)
          clear hF hD
          go_simp
        · refine chain_is _ (.inl rfl) ⟨_, rfl⟩ (by kernel_rfl) rfl ?_
          intro a W kst l0 h0 A0 hF hD
          have e22 : a.tmps[22]?.getD undef = .pointer (some ⟨b, 3, none⟩) := (ev a 22).symm.trans (hD _ (Array.mem_of_getElem? (i := 0) rfl) rfl)
          clear hF hD
          have hu := A0.1
          obtain ⟨vw2, vg2, hb2⟩ := (HC2.out.upd hu).cells_
          have g3 := hb2.cell 3
          simp [K.cells] at g3
          go_simp
        · refine chain_is _ (.inl rfl) ⟨_, rfl⟩ (by kernel_rfl) rfl ?_
          intro a W kst l0 h0 A0 hF hD
          have e19 : a.tmps[19]?.getD undef = .int .i64 kd := (ev a 19).symm.trans (hD _ (Array.mem_of_getElem? (i := 0) rfl) rfl)
          have e23 : a.tmps[23]?.getD undef = .bool k.out := (ev a 23).symm.trans (hD _ (Array.mem_of_getElem? (i := 1) rfl) rfl)
          clear hF hD
          go_simp
        · refine chain_run (.inl rfl) ⟨_, rfl⟩ (by kernel_rfl) ?_
          intro a W kst l0 h0 A0 hF hD
          have k0 : kst = 1 := Nat.le_antisymm h0 l0
          subst k0
          clear l0 h0
          have e24 : a.tmps[24]?.getD undef = .agg #[.int .i64 kd, .bool k.out] := (ev a 24).symm.trans (hD _ (Array.mem_of_getElem? (i := 1) rfl) rfl)
          clear hF hD
          obtain ⟨hu, g, hg, ht⟩ := A0
          have e18 : a.tmps[18]?.getD undef = _ := (ev a 18).symm.trans hg
          have hz : (zeroValue 3).run Tryz.prog W = .ok (.int .i64 0) W := by kernel_rfl
          have hl := (ht.look roleTabV_fun role_key Tryz.underlying199 hz (kd, k.out)).2
          rw [role_look] at hl
          simp only [encRole] at hl
          exact ⟨_, W, by (go_simp; first | done | rfl | exact ⟨rfl, rfl⟩), trivial, hu, rfl⟩
        · refine chain_run (.inl rfl) ⟨_, rfl⟩ (by kernel_rfl) ?_
          intro a W kst l0 h0 A0 hF hD
          have k0 : kst = 2 := Nat.le_antisymm h0 l0
          subst k0
          clear l0 h0
          clear hF hD
          obtain ⟨hu, h1⟩ := A0
          have e25 : a.tmps[25]?.getD undef = _ := (ev a 25).symm.trans h1
          exact ⟨_, W, by (go_simp; first | done | rfl | exact ⟨rfl, rfl⟩), trivial, hu, rfl⟩
      intro vals W hv hA
      have v1 : vals 1 = .int .i64 kd := hv 1 (by decide)
      have v2 : vals 2 = .pointer (some ⟨b, 0, none⟩) := hv 2 (by decide)
      have v3 : vals 3 = .pointer (some ⟨b, 0, none⟩) := hv 3 (by decide)
      have v4 : vals 4 = .pointer (some ⟨b, 3, none⟩) := hv 4 (by decide)
      have v5 : vals 5 = .bool k.out := hv 5 (by decide)
      have v6 : vals 6 = .agg #[.int .i64 kd, .bool k.out] := hv 6 (by decide)
      clear hv
      obtain ⟨hu, h8⟩ := hA
      have h8 : vals 8 = .int .i64 (roleOf kd k.out) := h8
      rw [← HD.out] at h8
      simp only [putAll, Act.put, Nat.zero_add, Nat.reduceAdd, h8, v1, v2, v3, v4, v5, v6, List.setIfInBounds_toArray, List.set_cons_zero, List.set_cons_succ]
      clear v1 v2 v3 v4 v5 v6
      have HC4 := Lib.hid (HC2.out.upd hu)
      have HU4 : Hid (Upd [b] w W) := HU2.out.trans (hu.mono (by simp))
      have HL4 := Lib.hid (HL2.out.upd hu)
      have hb4 := HB2.out.upd hu (by simp)
      have q0 := hb4.cell 0
      have q1 := hb4.cell 1
      have q2 := hb4.cell 2
      have q3 := hb4.cell 3
      have q4 := hb4.cell 4
      simp at q0 q1 q2 q3 q4
      obtain ⟨vw4, vg4, hc4⟩ := HC4.out.cells_
      have g5 := hc4.cell 5
      have f5 := hc4.frozen 5
      have lt4 := hc4.lt
      simp [K.cells] at g5
      have hwl : w.heap.size < W.heap.size := hb4.lt
      clear hu h8 hb4 hc4 HB2 HC2 HU2 HL2
      go_wp2_with fail
      refine (check_any t s ns nr _ l _ HL4.out HS.out).mono ?_
      rintro e w5 ⟨rfl, hu5⟩
      have HC5 := Lib.hid (HC4.out.upd hu5)
      have HU5 : Hid (Upd [b] w w5) := HU4.out.trans (hu5.mono (by simp))
      have HL5 := Lib.hid (HL4.out.upd hu5)
      obtain ⟨vw5, vg5, hc5⟩ := HC5.out.cells_
      have g5b := hc5.cell 5
      have f5b := hc5.frozen 5
      simp [K.cells] at g5b
      have Q := fun (i : Nat) => hu5.cell (p := ⟨w.heap.size, i, none⟩) hwl (by simp)
      have p0 := (Q 0).trans q0
      have p1 := (Q 1).trans q1
      have p2 := (Q 2).trans q2
      have p3 := (Q 3).trans q3
      have p4 := (Q 4).trans q4
      have hlt5 := hc5.lt
      clear Q q0 q1 q2 q3 q4 hu5 g5 f5 hc5 lt4 hwl
      rw [← HCK.out]
      go_wp2_with fail
      refine (end_any b k 2 _ HC5.out).mono ?_
      rintro e w6 ⟨v6, own6, rfl, h1, h2, h3⟩
      have HX := Lib.hid (And.intro (h1.low HU5.out.size) (And.intro h2 (HU5.out.trans h3)))
      clear h1 h2 h3 g5b f5b p0 p1 p2 p3 p4
      go_wp2_with fail
      go_ret
      rw [HG.out]
      exact ⟨⟨_, own6, rfl, HX.out⟩⟩
end Go.Proofs.YtglafpdealjlnaaGreat
namespace Go.Proofs.YtglafpdealjlnaaGreat
open Go.RowKit
set_option linter.unusedSimpArgs false
set_option linter.unusedVariables false
set_option maxRecDepth 100000

theorem K.new_ok (id serial : Int) (out : Bool) : (K.new id serial out).ok := ⟨rfl, by simp [K.new], by simp [K.new], by simp [K.new], by simp [K.new], by simp [K.new], by simp [K.new]⟩
theorem K.ok.same {k k' : K} (h : k.ok) (h1 : k'.made = k.made) (h2 : k'.wens = k.wens) (h3 : k'.slis = k.slis) (h4 : k'.with_ = k.with_) (h5 : k'.got = k.got) : k'.ok := by
  obtain ⟨a1, a2, a3, a4, a5, a6, a7⟩ := h
  exact ⟨h1 ▸ a1, h2 ▸ a2, h2 ▸ a3, h3 ▸ a4, h3 ▸ a5, h4 ▸ a6, h5 ▸ a7⟩
theorem K.openC_ok {k : K} (h : k.ok) : k.openC.1.ok := by
  unfold K.openC
  split
  · exact h.same rfl rfl rfl rfl rfl
  · exact h
theorem K.fin_ok {k : K} (h : k.ok) (code : Int) : (k.fin code).1.ok := h.same rfl rfl rfl rfl rfl
theorem K.close_ok {k : K} (h : k.ok) (code : Int) : (k.close code).1.ok := by
  unfold K.close
  (repeat' split) <;> first | exact h | exact h.same rfl rfl rfl rfl rfl
theorem K.take_ok {k : K} (h : k.ok) (l : List Av) (hl : ∀ a ∈ l, a.val.size ≤ maxLen) : (k.take l).1.ok := by
  have hn : (k.named l).1.ok := by
    unfold K.named
    (repeat' split) <;> exact h.same rfl rfl rfl rfl rfl
  have hh : ∀ a b, (k.handle a b l).1.ok := by
    intro a b
    unfold K.handle
    (repeat' split)
    · exact hn
    · obtain ⟨a1, a2, a3, a4, a5, a6, a7⟩ := h
      exact ⟨a1, a2, a3, a4, a5, a6, hl⟩
    · obtain ⟨a1, a2, a3, a4, a5, a6, a7⟩ := h
      refine ⟨a1, ?_, ?_, a4, a5, a6, a7⟩ <;> simp only <;> omega
    · obtain ⟨a1, a2, a3, a4, a5, a6, a7⟩ := h
      refine ⟨a1, a2, a3, ?_, ?_, a6, a7⟩ <;> simp only <;> omega
    · exact h
  unfold K.take
  (repeat' split) <;> first | exact h | exact hh _ _ | exact h.same rfl rfl rfl rfl rfl
/-- One thing said, read; it stays while calls are written. -/
theorem SaysAt.one_get {w : World} {v : Value} {p : Sy} {own : List Nat} (h : SaysAt w v [p] own) :
    ∃ g off cap u, v = .slice (some ⟨g, off, none⟩) 1 cap ∧ 1 ≤ cap ∧ cap ≤ maxLen ∧ w.cell? ⟨g, off, none⟩ = some (.int .i64 p.1) ∧ w.cell? ⟨g, off + 1, none⟩ = some u ∧ AvsAt w u p.2 ∧
      ∀ W b k, CallAt w b k → Upd [b] w W → AvsAt W u p.2 := by
  obtain ⟨us, h1, h2, h3⟩ := h
  match us, h1 with
  | [u], _ =>
    obtain ⟨ou, h4⟩ := h3 0 p u rfl rfl
    obtain ⟨g, off, cap, rfl, _, h5, h6, h7⟩ := h2.form (by simp)
    refine ⟨g, off, cap, u, rfl, h5, h6, h7 0 _ rfl, h7 1 _ rfl, AvsAt.of_own h4, fun W b k hc hu => AvsAt.of_own (h4.upd hu ?_)⟩
    obtain ⟨vw, vg, ow, og, g1, _, _⟩ := hc
    intro x hx
    simp
    rintro rfl
    exact h4.ne_blk g1 (by decide) hx
theorem AvsAt.shape {w : World} {u : Value} {l : List Av} (h : AvsAt w u l) : ∃ ao n c, u = .slice ao n c := by
  obtain ⟨ao, c, rfl, _⟩ := h
  exact ⟨ao, _, c, rfl⟩
/-- What one end says is taken by another one: stage by stage. -/
def takeS (w0 : World) (b : Nat) (p : K × List Sy) (vs : List Value) (w : World) : Prop := match vs with
  | [] => Upd [] w0 w
  | [v] => ∃ own, SaysAt w v p.2 own ∧ CallAt w b p.1 ∧ Upd [b] w0 w
  | [_, v] => ∃ own, SaysAt w v p.2 own ∧ CallAt w b p.1 ∧ Upd [b] w0 w
  | _ => False
theorem SaysAt.one_cell {w : World} {g off n cap : Nat} {p : Sy} {own : List Nat} (h : SaysAt w (.slice (some ⟨g, off, none⟩) n cap) [p] own) : w.cell? ⟨g, off, none⟩ = some (.int .i64 p.1) := by
  obtain ⟨g', off', cap', u, h1, _, _, h2, _⟩ := h.one_get
  simp at h1
  obtain ⟨⟨rfl, rfl⟩, _, _⟩ := h1
  exact h2
def al0 : List Av := [numAv 0 10 2, numAv 14 5 2, numAv 15 1 4]
def al1 : List Av := [numAv 0 11 2, numAv 14 9 2]
def al2 : List Av := [numAv 0 12 2, numAv 24 10000000 4, numAv 19 1 4]
def ka1 : K := (K.new 5 1 false).openC.1
def kb1 : K := ((K.new 9 1 false).take al0).1
def ka2 : K := (ka1.take al1).1
def kb2 : K := (kb1.take al2).1
theorem al_open : (K.new 5 1 false).openC.2 = [(0, al0)] := by decide +kernel
theorem al_b1 : ((K.new 9 1 false).take al0).2 = [(5, al1)] := by decide +kernel
theorem al_a2 : (ka1.take al1).2 = [(9, al2)] := by decide +kernel
theorem al_b2 : (kb1.take al2).2 = [] := by decide +kernel
theorem al_end : ka2.id = 5 ∧ ka2.peer = 9 ∧ ka2.state = 3 ∧ kb2.id = 9 ∧ kb2.peer = 5 ∧ kb2.state = 3 := by decide +kernel
theorem al_made : ka2.made = true ∧ kb2.made = true := by decide +kernel
theorem numAv_small (k v : Int) (n : Nat) (hn : n ≤ 8) : (numAv k v n).val.size ≤ maxLen := by simp only [numAv, be_size, maxLen]; omega
theorem al0_small : ∀ a ∈ al0, a.val.size ≤ maxLen := by
  intro a ha
  simp only [al0, List.mem_cons, List.not_mem_nil, or_false] at ha
  rcases ha with rfl | rfl | rfl <;> exact numAv_small _ _ _ (by omega)
theorem al1_small : ∀ a ∈ al1, a.val.size ≤ maxLen := by
  intro a ha
  simp only [al1, List.mem_cons, List.not_mem_nil, or_false] at ha
  rcases ha with rfl | rfl <;> exact numAv_small _ _ _ (by omega)
theorem al2_small : ∀ a ∈ al2, a.val.size ≤ maxLen := by
  intro a ha
  simp only [al2, List.mem_cons, List.not_mem_nil, or_false] at ha
  rcases ha with rfl | rfl | rfl <;> exact numAv_small _ _ _ (by omega)
end Go.Proofs.YtglafpdealjlnaaGreat
namespace Go.Proofs.YtglafpdealjlnaaGreat
open Go.RowKit
set_option linter.unusedSimpArgs false
set_option linter.unusedVariables false
set_option maxRecDepth 100000

set_option maxHeartbeats 4000000 in
theorem alive22_any (w : World) : Calls Tryz.prog 34 #[] w fun e w' => e = .returned (.bool true) ∧ Upd [] w w' := by
  go_enter Tryz.func34, Tryz.ntmps34
  go_wp2_with fail
  refine (new_call 5 1 false w (by omega) (by omega)).mono ?_
  rintro e w1 ⟨rfl, ha, u1⟩
  go_wp2_with fail
  refine (new_call 9 1 false w1 (by omega) (by omega)).mono ?_
  rintro e w2 ⟨rfl, hb, u2⟩
  have hne : w.heap.size ≠ w1.heap.size := by have := ha.lt; omega
  obtain ⟨ca, ha0⟩ : ∃ x, x = w.heap.size := ⟨_, rfl⟩
  obtain ⟨cb, hb0⟩ : ∃ x, x = w1.heap.size := ⟨_, rfl⟩
  have HNEW : Hid (w.heap.size ≤ ca ∧ w.heap.size ≤ cb) := by have := u1.size; exact ⟨by omega, by omega⟩
  rw [← ha0] at ha hne
  rw [← hb0] at hb hne
  rw [← ha0, ← hb0]
  have HA := Lib.hid (ha.upd u2)
  have HB := Lib.hid hb
  have HNE := Lib.hid hne
  have HU := Lib.hid (u1.trans u2)
  clear ha hb ha0 hb0 hne u1 u2
  go_wp2_with fail
  refine (open_any ca (K.new 5 1 false) _ HA.out rfl).mono ?_
  rintro e w3 ⟨vx, ox, rfl, h1, h2, h3⟩
  replace h1 := h1.says
  rw [al_open] at h1
  have HB3 := Lib.hid (HB.out.far HA.out HNE.out.symm h3)
  have HA3 : Hid (CallAt w3 ca ka1) := h2
  have HU3 : Hid (Upd [] w w3) := HU.out.trans' h3 (fun x hx => .inr (by simp at hx; subst hx; exact HNEW.out.1))
  have HX3 := Lib.hid h1
  obtain ⟨gx, fx, cx, ux, hvx, mx1, mx2, csx, cux, avx, farx⟩ := SaysAt.one_get HX3.out
  obtain ⟨aox, nx, dx, rfl⟩ := avx.shape
  subst hvx
  simp only [maxLen] at mx2
  have HLT : Hid (gx < w3.heap.size) := Lib.hid (cell_lt' csx)
  have HCS := Lib.hid csx
  have HCU := Lib.hid cux
  have HAV := Lib.hid avx
  have HFARR : Hid (∀ W, Upd [cb] w3 W → AvsAt W (.slice aox nx dx) al0) := fun W hu => farx W cb _ HB3.out hu
  have HCALL := Lib.hid HB3.out
  have HSZ := Lib.hid al0_small
  have HOKK := Lib.hid (K.new_ok 9 1 false)
  have HLEN : Hid (al0.length ≤ 1000000) := by show _ ≤ _; decide
  clear h1 h2 h3 csx cux avx farx HA HB HU
  go_upto_region 8 with (fail)
  refine wp_region_chain [some (.pointer (some ⟨cb, 0, none⟩)), some (.slice (some ⟨gx, fx, none⟩) 1 cx), some (.pointer (some ⟨gx, fx, none⟩)), some (.pointer (some ⟨gx, fx, none⟩)), some (.int .i64 0), some (.slice (some ⟨gx, fx, none⟩) 1 cx), some (.pointer (some ⟨gx, fx, none⟩)), some (.pointer (some ⟨gx, fx + 1, none⟩)), some (.slice aox nx dx), some (.agg #[.int .i64 0, .int .i64 0, .int .i64 0, .int .i64 0, .slice aox nx dx]), none, none] [10,11] (takeS w3 cb (K.take (K.new 9 1 false) al0)) [(0, 0), (0, 0), (0, 0), (0, 0), (0, 0), (0, 0), (0, 0), (0, 0), (0, 0), (0, 0), (0, 0), (1, 1)] (by kernel_rfl) (by kernel_rfl) (by kernel_rfl) (by kernel_rfl) (by kernel_rfl) (by kernel_rfl) ((Upd.refl [] _).drew) ?_ ?_
  · refine StepsC.cons ?_ (StepsC.cons ?_ (StepsC.cons ?_ (StepsC.cons ?_ (StepsC.cons ?_ (StepsC.cons ?_ (StepsC.cons ?_ (StepsC.cons ?_ (StepsC.cons ?_ (StepsC.cons ?_ (StepsC.cons ?_ (StepsC.cons ?_ StepsC.nil)))))))))))
    · refine chain_is _ (.inl rfl) ⟨_, rfl⟩ (by kernel_rfl) rfl ?_
      intro a W kst l0 h0 A0 hF hD
      have k0 : kst = 0 := Nat.le_antisymm h0 l0
      subst k0
      clear l0 h0
      have e3 : a.tmps[3]?.getD undef = _ := (ev a 3).symm.trans (hF 3 (by kernel_rfl))
      clear hF hD
      go_simp
    · refine chain_is _ (.inl rfl) ⟨_, rfl⟩ (by kernel_rfl) rfl ?_
      intro a W kst l0 h0 A0 hF hD
      have k0 : kst = 0 := Nat.le_antisymm h0 l0
      subst k0
      clear l0 h0
      have e5 : a.tmps[5]?.getD undef = _ := (ev a 5).symm.trans (hF 5 (by kernel_rfl))
      clear hF hD
      go_simp
    · refine chain_is _ (.inl rfl) ⟨_, rfl⟩ (by kernel_rfl) rfl ?_
      intro a W kst l0 h0 A0 hF hD
      have k0 : kst = 0 := Nat.le_antisymm h0 l0
      subst k0
      clear l0 h0
      have e40 : a.tmps[40]?.getD undef = .slice (some ⟨gx, fx, none⟩) 1 cx := (ev a 40).symm.trans (hD _ (Array.mem_of_getElem? (i := 0) rfl) rfl)
      clear hF hD
      go_simp
    · refine chain_is _ (.inl rfl) ⟨_, rfl⟩ (by kernel_rfl) rfl ?_
      intro a W kst l0 h0 A0 hF hD
      have k0 : kst = 0 := Nat.le_antisymm h0 l0
      subst k0
      clear l0 h0
      have e41 : a.tmps[41]?.getD undef = .pointer (some ⟨gx, fx, none⟩) := (ev a 41).symm.trans (hD _ (Array.mem_of_getElem? (i := 0) rfl) rfl)
      clear hF hD
      go_simp
    · refine chain_is _ (.inl rfl) ⟨_, rfl⟩ (by kernel_rfl) rfl ?_
      intro a W kst l0 h0 A0 hF hD
      have k0 : kst = 0 := Nat.le_antisymm h0 l0
      subst k0
      clear l0 h0
      have e42 : a.tmps[42]?.getD undef = .pointer (some ⟨gx, fx, none⟩) := (ev a 42).symm.trans (hD _ (Array.mem_of_getElem? (i := 0) rfl) rfl)
      clear hF hD
      have hu : Upd [] _ W := A0
      have c1 := (hu.cell (p := ⟨gx, fx, none⟩) HLT.out (by simp)).trans HCS.out
      go_simp
    · refine chain_is _ (.inl rfl) ⟨_, rfl⟩ (by kernel_rfl) rfl ?_
      intro a W kst l0 h0 A0 hF hD
      have k0 : kst = 0 := Nat.le_antisymm h0 l0
      subst k0
      clear l0 h0
      have e5 : a.tmps[5]?.getD undef = _ := (ev a 5).symm.trans (hF 5 (by kernel_rfl))
      clear hF hD
      go_simp
    · refine chain_is _ (.inl rfl) ⟨_, rfl⟩ (by kernel_rfl) rfl ?_
      intro a W kst l0 h0 A0 hF hD
      have k0 : kst = 0 := Nat.le_antisymm h0 l0
      subst k0
      clear l0 h0
      have e44 : a.tmps[44]?.getD undef = .slice (some ⟨gx, fx, none⟩) 1 cx := (ev a 44).symm.trans (hD _ (Array.mem_of_getElem? (i := 0) rfl) rfl)
      clear hF hD
      go_simp
    · refine chain_is _ (.inl rfl) ⟨_, rfl⟩ (by kernel_rfl) rfl ?_
      intro a W kst l0 h0 A0 hF hD
      have k0 : kst = 0 := Nat.le_antisymm h0 l0
      subst k0
      clear l0 h0
      have e45 : a.tmps[45]?.getD undef = .pointer (some ⟨gx, fx, none⟩) := (ev a 45).symm.trans (hD _ (Array.mem_of_getElem? (i := 0) rfl) rfl)
      clear hF hD
      go_simp
    · refine chain_is _ (.inl rfl) ⟨_, rfl⟩ (by kernel_rfl) rfl ?_
      intro a W kst l0 h0 A0 hF hD
      have k0 : kst = 0 := Nat.le_antisymm h0 l0
      subst k0
      clear l0 h0
      have e46 : a.tmps[46]?.getD undef = .pointer (some ⟨gx, fx + 1, none⟩) := (ev a 46).symm.trans (hD _ (Array.mem_of_getElem? (i := 0) rfl) rfl)
      clear hF hD
      have hu : Upd [] _ W := A0
      have c1 := (hu.cell (p := ⟨gx, fx + 1, none⟩) HLT.out (by simp)).trans HCU.out
      go_simp
    · refine chain_is _ (.inl rfl) ⟨_, rfl⟩ (by kernel_rfl) rfl ?_
      intro a W kst l0 h0 A0 hF hD
      have k0 : kst = 0 := Nat.le_antisymm h0 l0
      subst k0
      clear l0 h0
      have e43 : a.tmps[43]?.getD undef = .int .i64 0 := (ev a 43).symm.trans (hD _ (Array.mem_of_getElem? (i := 0) rfl) rfl)
      have e47 : a.tmps[47]?.getD undef = .slice aox nx dx := (ev a 47).symm.trans (hD _ (Array.mem_of_getElem? (i := 1) rfl) rfl)
      clear hF hD
      go_simp
    · refine chain_call (.inl rfl) ⟨_, rfl⟩ (by kernel_rfl) ?_
      intro a W kst l0 h0 A0 hF hD
      have k0 : kst = 0 := Nat.le_antisymm h0 l0
      subst k0
      clear l0 h0
      have e39 : a.tmps[39]?.getD undef = .pointer (some ⟨cb, 0, none⟩) := (ev a 39).symm.trans (hD _ (Array.mem_of_getElem? (i := 0) rfl) rfl)
      have e48 : a.tmps[48]?.getD undef = .agg #[.int .i64 0, .int .i64 0, .int .i64 0, .int .i64 0, .slice aox nx dx] := (ev a 48).symm.trans (hD _ (Array.mem_of_getElem? (i := 1) rfl) rfl)
      clear hF hD
      have hu : Upd [] _ W := A0
      refine ⟨_, _, by (go_simp; first | done | rfl | exact ⟨rfl, rfl⟩), ?_⟩
      refine (take_any cb (K.new 9 1 false) al0 0 0 0 0 _ _ (HCALL.out.upd hu) (HAV.out.upd hu) HSZ.out HOKK.out HLEN.out (fun W2 hw => HFARR.out _ ((hu.mono (by simp)).trans hw))).mono ?_
      rintro e w3 ⟨v3, own3, rfl, h1, h2, h3⟩
      exact ⟨_, rfl, trivial, own3, h1.says, h2, (hu.mono (by simp)).trans h3⟩
    · refine chain_run (.inl rfl) ⟨_, rfl⟩ (by kernel_rfl) ?_
      intro a W kst l0 h0 A0 hF hD
      have k0 : kst = 1 := Nat.le_antisymm h0 l0
      subst k0
      clear l0 h0
      clear hF hD
      obtain ⟨own1, h1, h2, h3⟩ := A0
      exact ⟨_, W, by (go_simp; first | done | rfl | exact ⟨rfl, rfl⟩), trivial, own1, by rw [← ev]; exact h1, h2, h3⟩
  intro vals W hv hA
  have v0 : vals 0 = .pointer (some ⟨cb, 0, none⟩) := hv 0 (by decide)
  have v1 : vals 1 = .slice (some ⟨gx, fx, none⟩) 1 cx := hv 1 (by decide)
  have v2 : vals 2 = .pointer (some ⟨gx, fx, none⟩) := hv 2 (by decide)
  have v3 : vals 3 = .pointer (some ⟨gx, fx, none⟩) := hv 3 (by decide)
  have v4 : vals 4 = .int .i64 0 := hv 4 (by decide)
  have v5 : vals 5 = .slice (some ⟨gx, fx, none⟩) 1 cx := hv 5 (by decide)
  have v6 : vals 6 = .pointer (some ⟨gx, fx, none⟩) := hv 6 (by decide)
  have v7 : vals 7 = .pointer (some ⟨gx, fx + 1, none⟩) := hv 7 (by decide)
  have v8 : vals 8 = .slice aox nx dx := hv 8 (by decide)
  have v9 : vals 9 = .agg #[.int .i64 0, .int .i64 0, .int .i64 0, .int .i64 0, .slice aox nx dx] := hv 9 (by decide)
  clear hv
  obtain ⟨own1, h1, h2, h3⟩ := hA
  simp only [putAll, Act.put, Nat.zero_add, Nat.reduceAdd, v0, v1, v2, v3, v4, v5, v6, v7, v8, v9, List.setIfInBounds_toArray, List.set_cons_zero, List.set_cons_succ]
  clear v0 v1 v2 v3 v4 v5 v6 v7 v8 v9
  clear HLT HCS HCU HAV HFARR HCALL HSZ HOKK HLEN
  rw [al_b1] at h1
  have HA4 := Lib.hid (HA3.out.far HB3.out HNE.out h3)
  have HB4 : Hid (CallAt W cb kb1) := h2
  have HX4 := Lib.hid (HX3.out.far HB3.out h3)
  have HU4 : Hid (Upd [] w W) := HU3.out.trans' h3 (fun x hx => .inr (by simp at hx; subst hx; exact HNEW.out.2))
  generalize vals 11 = vy at *
  have HY4 := Lib.hid h1
  clear h1 h2 h3 HX3 HA3 HB3 HU3
  obtain ⟨gy, fy, cy, uy, hvy, my1, my2, csy, cuy, avy, fary⟩ := SaysAt.one_get HY4.out
  obtain ⟨aoy, ny, dy, rfl⟩ := avy.shape
  subst hvy
  simp only [maxLen] at my2
  have HLT : Hid (gy < W.heap.size) := Lib.hid (cell_lt' csy)
  have HCS := Lib.hid csy
  have HCU := Lib.hid cuy
  have HAV := Lib.hid avy
  have HFARR : Hid (∀ W2, Upd [ca] W W2 → AvsAt W2 (.slice aoy ny dy) al1) := fun W2 hu => fary W2 ca _ HA4.out hu
  have HCALL := Lib.hid HA4.out
  have HSZ := Lib.hid al1_small
  have HOKK := Lib.hid (K.openC_ok (K.new_ok 5 1 false))
  have HLEN : Hid (al1.length ≤ 1000000) := by show _ ≤ _; decide
  clear csy cuy avy fary
  obtain ⟨w4, hw4⟩ : ∃ x, x = W := ⟨_, rfl⟩
  subst hw4
  go_upto_region 11 with (fail)
  refine wp_region_chain [some (.pointer (some ⟨ca, 0, none⟩)), some (.slice (some ⟨gy, fy, none⟩) 1 cy), some (.pointer (some ⟨gy, fy, none⟩)), some (.pointer (some ⟨gy, fy, none⟩)), some (.int .i64 5), some (.slice (some ⟨gy, fy, none⟩) 1 cy), some (.pointer (some ⟨gy, fy, none⟩)), some (.pointer (some ⟨gy, fy + 1, none⟩)), some (.slice aoy ny dy), some (.agg #[.int .i64 0, .int .i64 5, .int .i64 0, .int .i64 0, .slice aoy ny dy]), none, none] [10,11] (takeS w4 ca (K.take ka1 al1)) [(0, 0), (0, 0), (0, 0), (0, 0), (0, 0), (0, 0), (0, 0), (0, 0), (0, 0), (0, 0), (0, 0), (1, 1)] (by kernel_rfl) (by kernel_rfl) (by kernel_rfl) (by kernel_rfl) (by kernel_rfl) (by kernel_rfl) ((Upd.refl [] _).drew) ?_ ?_
  · refine StepsC.cons ?_ (StepsC.cons ?_ (StepsC.cons ?_ (StepsC.cons ?_ (StepsC.cons ?_ (StepsC.cons ?_ (StepsC.cons ?_ (StepsC.cons ?_ (StepsC.cons ?_ (StepsC.cons ?_ (StepsC.cons ?_ (StepsC.cons ?_ StepsC.nil)))))))))))
    · refine chain_is _ (.inl rfl) ⟨_, rfl⟩ (by kernel_rfl) rfl ?_
      intro a W kst l0 h0 A0 hF hD
      have k0 : kst = 0 := Nat.le_antisymm h0 l0
      subst k0
      clear l0 h0
      have e1 : a.tmps[1]?.getD undef = _ := (ev a 1).symm.trans (hF 1 (by kernel_rfl))
      clear hF hD
      go_simp
    · refine chain_is _ (.inl rfl) ⟨_, rfl⟩ (by kernel_rfl) rfl ?_
      intro a W kst l0 h0 A0 hF hD
      have k0 : kst = 0 := Nat.le_antisymm h0 l0
      subst k0
      clear l0 h0
      have e6 : a.tmps[6]?.getD undef = _ := (ev a 6).symm.trans (hF 6 (by kernel_rfl))
      clear hF hD
      go_simp
    · refine chain_is _ (.inl rfl) ⟨_, rfl⟩ (by kernel_rfl) rfl ?_
      intro a W kst l0 h0 A0 hF hD
      have k0 : kst = 0 := Nat.le_antisymm h0 l0
      subst k0
      clear l0 h0
      have e54 : a.tmps[54]?.getD undef = .slice (some ⟨gy, fy, none⟩) 1 cy := (ev a 54).symm.trans (hD _ (Array.mem_of_getElem? (i := 0) rfl) rfl)
      clear hF hD
      go_simp
    · refine chain_is _ (.inl rfl) ⟨_, rfl⟩ (by kernel_rfl) rfl ?_
      intro a W kst l0 h0 A0 hF hD
      have k0 : kst = 0 := Nat.le_antisymm h0 l0
      subst k0
      clear l0 h0
      have e55 : a.tmps[55]?.getD undef = .pointer (some ⟨gy, fy, none⟩) := (ev a 55).symm.trans (hD _ (Array.mem_of_getElem? (i := 0) rfl) rfl)
      clear hF hD
      go_simp
    · refine chain_is _ (.inl rfl) ⟨_, rfl⟩ (by kernel_rfl) rfl ?_
      intro a W kst l0 h0 A0 hF hD
      have k0 : kst = 0 := Nat.le_antisymm h0 l0
      subst k0
      clear l0 h0
      have e56 : a.tmps[56]?.getD undef = .pointer (some ⟨gy, fy, none⟩) := (ev a 56).symm.trans (hD _ (Array.mem_of_getElem? (i := 0) rfl) rfl)
      clear hF hD
      have hu : Upd [] _ W := A0
      have c1 := (hu.cell (p := ⟨gy, fy, none⟩) HLT.out (by simp)).trans HCS.out
      go_simp
    · refine chain_is _ (.inl rfl) ⟨_, rfl⟩ (by kernel_rfl) rfl ?_
      intro a W kst l0 h0 A0 hF hD
      have k0 : kst = 0 := Nat.le_antisymm h0 l0
      subst k0
      clear l0 h0
      have e6 : a.tmps[6]?.getD undef = _ := (ev a 6).symm.trans (hF 6 (by kernel_rfl))
      clear hF hD
      go_simp
    · refine chain_is _ (.inl rfl) ⟨_, rfl⟩ (by kernel_rfl) rfl ?_
      intro a W kst l0 h0 A0 hF hD
      have k0 : kst = 0 := Nat.le_antisymm h0 l0
      subst k0
      clear l0 h0
      have e58 : a.tmps[58]?.getD undef = .slice (some ⟨gy, fy, none⟩) 1 cy := (ev a 58).symm.trans (hD _ (Array.mem_of_getElem? (i := 0) rfl) rfl)
      clear hF hD
      go_simp
    · refine chain_is _ (.inl rfl) ⟨_, rfl⟩ (by kernel_rfl) rfl ?_
      intro a W kst l0 h0 A0 hF hD
      have k0 : kst = 0 := Nat.le_antisymm h0 l0
      subst k0
      clear l0 h0
      have e59 : a.tmps[59]?.getD undef = .pointer (some ⟨gy, fy, none⟩) := (ev a 59).symm.trans (hD _ (Array.mem_of_getElem? (i := 0) rfl) rfl)
      clear hF hD
      go_simp
    · refine chain_is _ (.inl rfl) ⟨_, rfl⟩ (by kernel_rfl) rfl ?_
      intro a W kst l0 h0 A0 hF hD
      have k0 : kst = 0 := Nat.le_antisymm h0 l0
      subst k0
      clear l0 h0
      have e60 : a.tmps[60]?.getD undef = .pointer (some ⟨gy, fy + 1, none⟩) := (ev a 60).symm.trans (hD _ (Array.mem_of_getElem? (i := 0) rfl) rfl)
      clear hF hD
      have hu : Upd [] _ W := A0
      have c1 := (hu.cell (p := ⟨gy, fy + 1, none⟩) HLT.out (by simp)).trans HCU.out
      go_simp
    · refine chain_is _ (.inl rfl) ⟨_, rfl⟩ (by kernel_rfl) rfl ?_
      intro a W kst l0 h0 A0 hF hD
      have k0 : kst = 0 := Nat.le_antisymm h0 l0
      subst k0
      clear l0 h0
      have e57 : a.tmps[57]?.getD undef = .int .i64 5 := (ev a 57).symm.trans (hD _ (Array.mem_of_getElem? (i := 0) rfl) rfl)
      have e61 : a.tmps[61]?.getD undef = .slice aoy ny dy := (ev a 61).symm.trans (hD _ (Array.mem_of_getElem? (i := 1) rfl) rfl)
      clear hF hD
      go_simp
    · refine chain_call (.inl rfl) ⟨_, rfl⟩ (by kernel_rfl) ?_
      intro a W kst l0 h0 A0 hF hD
      have k0 : kst = 0 := Nat.le_antisymm h0 l0
      subst k0
      clear l0 h0
      have e53 : a.tmps[53]?.getD undef = .pointer (some ⟨ca, 0, none⟩) := (ev a 53).symm.trans (hD _ (Array.mem_of_getElem? (i := 0) rfl) rfl)
      have e62 : a.tmps[62]?.getD undef = .agg #[.int .i64 0, .int .i64 5, .int .i64 0, .int .i64 0, .slice aoy ny dy] := (ev a 62).symm.trans (hD _ (Array.mem_of_getElem? (i := 1) rfl) rfl)
      clear hF hD
      have hu : Upd [] _ W := A0
      refine ⟨_, _, by (go_simp; first | done | rfl | exact ⟨rfl, rfl⟩), ?_⟩
      refine (take_any ca ka1 al1 0 5 0 0 _ _ (HCALL.out.upd hu) (HAV.out.upd hu) HSZ.out HOKK.out HLEN.out (fun W2 hw => HFARR.out _ ((hu.mono (by simp)).trans hw))).mono ?_
      rintro e w3 ⟨v3, own3, rfl, h1, h2, h3⟩
      exact ⟨_, rfl, trivial, own3, h1.says, h2, (hu.mono (by simp)).trans h3⟩
    · refine chain_run (.inl rfl) ⟨_, rfl⟩ (by kernel_rfl) ?_
      intro a W kst l0 h0 A0 hF hD
      have k0 : kst = 1 := Nat.le_antisymm h0 l0
      subst k0
      clear l0 h0
      clear hF hD
      obtain ⟨own1, h1, h2, h3⟩ := A0
      exact ⟨_, W, by (go_simp; first | done | rfl | exact ⟨rfl, rfl⟩), trivial, own1, by rw [← ev]; exact h1, h2, h3⟩
  intro vals W hv hA
  have v0 : vals 0 = .pointer (some ⟨ca, 0, none⟩) := hv 0 (by decide)
  have v1 : vals 1 = .slice (some ⟨gy, fy, none⟩) 1 cy := hv 1 (by decide)
  have v2 : vals 2 = .pointer (some ⟨gy, fy, none⟩) := hv 2 (by decide)
  have v3 : vals 3 = .pointer (some ⟨gy, fy, none⟩) := hv 3 (by decide)
  have v4 : vals 4 = .int .i64 5 := hv 4 (by decide)
  have v5 : vals 5 = .slice (some ⟨gy, fy, none⟩) 1 cy := hv 5 (by decide)
  have v6 : vals 6 = .pointer (some ⟨gy, fy, none⟩) := hv 6 (by decide)
  have v7 : vals 7 = .pointer (some ⟨gy, fy + 1, none⟩) := hv 7 (by decide)
  have v8 : vals 8 = .slice aoy ny dy := hv 8 (by decide)
  have v9 : vals 9 = .agg #[.int .i64 0, .int .i64 5, .int .i64 0, .int .i64 0, .slice aoy ny dy] := hv 9 (by decide)
  clear hv
  obtain ⟨own1, h1, h2, h3⟩ := hA
  simp only [putAll, Act.put, Nat.zero_add, Nat.reduceAdd, v0, v1, v2, v3, v4, v5, v6, v7, v8, v9, List.setIfInBounds_toArray, List.set_cons_zero, List.set_cons_succ]
  clear v0 v1 v2 v3 v4 v5 v6 v7 v8 v9
  clear HLT HCS HCU HAV HFARR HCALL HSZ HOKK HLEN
  rw [al_a2] at h1
  have HB5 := Lib.hid (HB4.out.far HA4.out HNE.out.symm h3)
  have HA5 : Hid (CallAt W ca ka2) := h2
  have HX5 := Lib.hid (HX4.out.far HA4.out h3)
  have HY5 := Lib.hid (HY4.out.far HA4.out h3)
  have HU5 : Hid (Upd [] w W) := HU4.out.trans' h3 (fun x hx => .inr (by simp at hx; subst hx; exact HNEW.out.1))
  generalize vals 11 = vz at *
  have HZ5 := Lib.hid h1
  clear h1 h2 h3 HX4 HA4 HB4 HU4 HY4
  obtain ⟨gz, fz, cz, uz, hvz, mz1, mz2, csz, cuz, avz, farz⟩ := SaysAt.one_get HZ5.out
  obtain ⟨aoz, nz, dz, rfl⟩ := avz.shape
  subst hvz
  simp only [maxLen] at mz2
  have HLT : Hid (gz < W.heap.size) := Lib.hid (cell_lt' csz)
  have HCS := Lib.hid csz
  have HCU := Lib.hid cuz
  have HAV := Lib.hid avz
  have HFARR : Hid (∀ W2, Upd [cb] W W2 → AvsAt W2 (.slice aoz nz dz) al2) := fun W2 hu => farz W2 cb _ HB5.out hu
  have HCALL := Lib.hid HB5.out
  have HSZ := Lib.hid al2_small
  have HOKK := Lib.hid (K.take_ok (K.new_ok 9 1 false) al0 al0_small)
  have HLEN : Hid (al2.length ≤ 1000000) := by show _ ≤ _; decide
  clear csz cuz avz farz
  obtain ⟨w5, hw5⟩ : ∃ x, x = W := ⟨_, rfl⟩
  subst hw5
  go_upto_region 14 with (fail)
  refine wp_region_chain [some (.pointer (some ⟨cb, 0, none⟩)), some (.slice (some ⟨gz, fz, none⟩) 1 cz), some (.pointer (some ⟨gz, fz, none⟩)), some (.pointer (some ⟨gz, fz, none⟩)), some (.int .i64 9), some (.slice (some ⟨gz, fz, none⟩) 1 cz), some (.pointer (some ⟨gz, fz, none⟩)), some (.pointer (some ⟨gz, fz + 1, none⟩)), some (.slice aoz nz dz), some (.agg #[.int .i64 0, .int .i64 9, .int .i64 0, .int .i64 0, .slice aoz nz dz]), none] [10] (takeS w5 cb (K.take kb1 al2)) [(0, 0), (0, 0), (0, 0), (0, 0), (0, 0), (0, 0), (0, 0), (0, 0), (0, 0), (0, 0), (0, 0)] (by kernel_rfl) (by kernel_rfl) (by kernel_rfl) (by kernel_rfl) (by kernel_rfl) (by kernel_rfl) ((Upd.refl [] _).drew) ?_ ?_
  · refine StepsC.cons ?_ (StepsC.cons ?_ (StepsC.cons ?_ (StepsC.cons ?_ (StepsC.cons ?_ (StepsC.cons ?_ (StepsC.cons ?_ (StepsC.cons ?_ (StepsC.cons ?_ (StepsC.cons ?_ (StepsC.cons ?_ StepsC.nil))))))))))
    · refine chain_is _ (.inl rfl) ⟨_, rfl⟩ (by kernel_rfl) rfl ?_
      intro a W kst l0 h0 A0 hF hD
      have k0 : kst = 0 := Nat.le_antisymm h0 l0
      subst k0
      clear l0 h0
      have e3 : a.tmps[3]?.getD undef = _ := (ev a 3).symm.trans (hF 3 (by kernel_rfl))
      clear hF hD
      go_simp
    · refine chain_is _ (.inl rfl) ⟨_, rfl⟩ (by kernel_rfl) rfl ?_
      intro a W kst l0 h0 A0 hF hD
      have k0 : kst = 0 := Nat.le_antisymm h0 l0
      subst k0
      clear l0 h0
      have e7 : a.tmps[7]?.getD undef = _ := (ev a 7).symm.trans (hF 7 (by kernel_rfl))
      clear hF hD
      go_simp
    · refine chain_is _ (.inl rfl) ⟨_, rfl⟩ (by kernel_rfl) rfl ?_
      intro a W kst l0 h0 A0 hF hD
      have k0 : kst = 0 := Nat.le_antisymm h0 l0
      subst k0
      clear l0 h0
      have e68 : a.tmps[68]?.getD undef = .slice (some ⟨gz, fz, none⟩) 1 cz := (ev a 68).symm.trans (hD _ (Array.mem_of_getElem? (i := 0) rfl) rfl)
      clear hF hD
      go_simp
    · refine chain_is _ (.inl rfl) ⟨_, rfl⟩ (by kernel_rfl) rfl ?_
      intro a W kst l0 h0 A0 hF hD
      have k0 : kst = 0 := Nat.le_antisymm h0 l0
      subst k0
      clear l0 h0
      have e69 : a.tmps[69]?.getD undef = .pointer (some ⟨gz, fz, none⟩) := (ev a 69).symm.trans (hD _ (Array.mem_of_getElem? (i := 0) rfl) rfl)
      clear hF hD
      go_simp
    · refine chain_is _ (.inl rfl) ⟨_, rfl⟩ (by kernel_rfl) rfl ?_
      intro a W kst l0 h0 A0 hF hD
      have k0 : kst = 0 := Nat.le_antisymm h0 l0
      subst k0
      clear l0 h0
      have e70 : a.tmps[70]?.getD undef = .pointer (some ⟨gz, fz, none⟩) := (ev a 70).symm.trans (hD _ (Array.mem_of_getElem? (i := 0) rfl) rfl)
      clear hF hD
      have hu : Upd [] _ W := A0
      have c1 := (hu.cell (p := ⟨gz, fz, none⟩) HLT.out (by simp)).trans HCS.out
      go_simp
    · refine chain_is _ (.inl rfl) ⟨_, rfl⟩ (by kernel_rfl) rfl ?_
      intro a W kst l0 h0 A0 hF hD
      have k0 : kst = 0 := Nat.le_antisymm h0 l0
      subst k0
      clear l0 h0
      have e7 : a.tmps[7]?.getD undef = _ := (ev a 7).symm.trans (hF 7 (by kernel_rfl))
      clear hF hD
      go_simp
    · refine chain_is _ (.inl rfl) ⟨_, rfl⟩ (by kernel_rfl) rfl ?_
      intro a W kst l0 h0 A0 hF hD
      have k0 : kst = 0 := Nat.le_antisymm h0 l0
      subst k0
      clear l0 h0
      have e72 : a.tmps[72]?.getD undef = .slice (some ⟨gz, fz, none⟩) 1 cz := (ev a 72).symm.trans (hD _ (Array.mem_of_getElem? (i := 0) rfl) rfl)
      clear hF hD
      go_simp
    · refine chain_is _ (.inl rfl) ⟨_, rfl⟩ (by kernel_rfl) rfl ?_
      intro a W kst l0 h0 A0 hF hD
      have k0 : kst = 0 := Nat.le_antisymm h0 l0
      subst k0
      clear l0 h0
      have e73 : a.tmps[73]?.getD undef = .pointer (some ⟨gz, fz, none⟩) := (ev a 73).symm.trans (hD _ (Array.mem_of_getElem? (i := 0) rfl) rfl)
      clear hF hD
      go_simp
    · refine chain_is _ (.inl rfl) ⟨_, rfl⟩ (by kernel_rfl) rfl ?_
      intro a W kst l0 h0 A0 hF hD
      have k0 : kst = 0 := Nat.le_antisymm h0 l0
      subst k0
      clear l0 h0
      have e74 : a.tmps[74]?.getD undef = .pointer (some ⟨gz, fz + 1, none⟩) := (ev a 74).symm.trans (hD _ (Array.mem_of_getElem? (i := 0) rfl) rfl)
      clear hF hD
      have hu : Upd [] _ W := A0
      have c1 := (hu.cell (p := ⟨gz, fz + 1, none⟩) HLT.out (by simp)).trans HCU.out
      go_simp
    · refine chain_is _ (.inl rfl) ⟨_, rfl⟩ (by kernel_rfl) rfl ?_
      intro a W kst l0 h0 A0 hF hD
      have k0 : kst = 0 := Nat.le_antisymm h0 l0
      subst k0
      clear l0 h0
      have e71 : a.tmps[71]?.getD undef = .int .i64 9 := (ev a 71).symm.trans (hD _ (Array.mem_of_getElem? (i := 0) rfl) rfl)
      have e75 : a.tmps[75]?.getD undef = .slice aoz nz dz := (ev a 75).symm.trans (hD _ (Array.mem_of_getElem? (i := 1) rfl) rfl)
      clear hF hD
      go_simp
    · refine chain_call (.inl rfl) ⟨_, rfl⟩ (by kernel_rfl) ?_
      intro a W kst l0 h0 A0 hF hD
      have k0 : kst = 0 := Nat.le_antisymm h0 l0
      subst k0
      clear l0 h0
      have e67 : a.tmps[67]?.getD undef = .pointer (some ⟨cb, 0, none⟩) := (ev a 67).symm.trans (hD _ (Array.mem_of_getElem? (i := 0) rfl) rfl)
      have e76 : a.tmps[76]?.getD undef = .agg #[.int .i64 0, .int .i64 9, .int .i64 0, .int .i64 0, .slice aoz nz dz] := (ev a 76).symm.trans (hD _ (Array.mem_of_getElem? (i := 1) rfl) rfl)
      clear hF hD
      have hu : Upd [] _ W := A0
      refine ⟨_, _, by (go_simp; first | done | rfl | exact ⟨rfl, rfl⟩), ?_⟩
      refine (take_any cb kb1 al2 0 9 0 0 _ _ (HCALL.out.upd hu) (HAV.out.upd hu) HSZ.out HOKK.out HLEN.out (fun W2 hw => HFARR.out _ ((hu.mono (by simp)).trans hw))).mono ?_
      rintro e w3 ⟨v3, own3, rfl, h1, h2, h3⟩
      exact ⟨_, rfl, trivial, own3, h1.says, h2, (hu.mono (by simp)).trans h3⟩
  intro vals W hv hA
  have v0 : vals 0 = .pointer (some ⟨cb, 0, none⟩) := hv 0 (by decide)
  have v1 : vals 1 = .slice (some ⟨gz, fz, none⟩) 1 cz := hv 1 (by decide)
  have v2 : vals 2 = .pointer (some ⟨gz, fz, none⟩) := hv 2 (by decide)
  have v3 : vals 3 = .pointer (some ⟨gz, fz, none⟩) := hv 3 (by decide)
  have v4 : vals 4 = .int .i64 9 := hv 4 (by decide)
  have v5 : vals 5 = .slice (some ⟨gz, fz, none⟩) 1 cz := hv 5 (by decide)
  have v6 : vals 6 = .pointer (some ⟨gz, fz, none⟩) := hv 6 (by decide)
  have v7 : vals 7 = .pointer (some ⟨gz, fz + 1, none⟩) := hv 7 (by decide)
  have v8 : vals 8 = .slice aoz nz dz := hv 8 (by decide)
  have v9 : vals 9 = .agg #[.int .i64 0, .int .i64 9, .int .i64 0, .int .i64 0, .slice aoz nz dz] := hv 9 (by decide)
  clear hv
  obtain ⟨own1, h1, h2, h3⟩ := hA
  simp only [putAll, Act.put, Nat.zero_add, Nat.reduceAdd, v0, v1, v2, v3, v4, v5, v6, v7, v8, v9, List.setIfInBounds_toArray, List.set_cons_zero, List.set_cons_succ]
  clear v0 v1 v2 v3 v4 v5 v6 v7 v8 v9
  clear HLT HCS HCU HAV HFARR HCALL HSZ HOKK HLEN h1
  have HA6 := Lib.hid (HA5.out.far HB5.out HNE.out h3)
  have HB6 : Hid (CallAt W cb kb2) := h2
  have HX6 := Lib.hid (HX5.out.far HB5.out h3)
  have HY6 := Lib.hid (HY5.out.far HB5.out h3)
  have HZ6 := Lib.hid (HZ5.out.far HB5.out h3)
  have HU6 : Hid (Upd [] w W) := HU5.out.trans' h3 (fun x hx => .inr (by simp at hx; subst hx; exact HNEW.out.2))
  clear h2 h3 HX5 HA5 HB5 HU5 HY5 HZ5
  go_wp2_with fail
  have ida := ids_any ca ka2 W HA6.out al_made.1
  rw [al_end.1, al_end.2.1] at ida
  refine ida.mono ?_
  rintro e w6 ⟨rfl, u6⟩
  clear ida
  have HU7 := Lib.hid u6
  clear u6
  go_wp2_with fail
  have ida := ids_any cb kb2 w6 (HB6.out.upd HU7.out) al_made.2
  rw [al_end.2.2.2.1, al_end.2.2.2.2.1] at ida
  refine ida.mono ?_
  rintro e w7 ⟨rfl, u7⟩
  clear ida
  have HU8 := Lib.hid (HU7.out.trans u7)
  have HU9 := Lib.hid (HU6.out.trans HU8.out)
  have HA7 := Lib.hid (HA6.out.upd HU8.out)
  have HB7 := Lib.hid (HB6.out.upd HU8.out)
  have cx0 := (HX6.out.upd HU8.out).one_cell
  have cy0 := (HY6.out.upd HU8.out).one_cell
  have cz0 := (HZ6.out.upd HU8.out).one_cell
  simp only at cx0 cy0 cz0
  clear u7 HU7 HA6 HB6 HX6 HY6 HZ6 HU6 HU8
  go_wp2_with fail
  have ida := state_any ca ka2 w7 HA7.out al_made.1
  rw [al_end.2.2.1] at ida
  refine ida.mono ?_
  rintro e w8 ⟨rfl, rfl⟩
  clear ida
  go_wp2_with fail
  have ida := state_any cb kb2 w7 HB7.out al_made.2
  rw [al_end.2.2.2.2.2] at ida
  refine ida.mono ?_
  rintro e w8 ⟨rfl, rfl⟩
  clear ida
  go_wp2_with fail
  go_ret
  exact ⟨rfl, HU9.out⟩
end Go.Proofs.YtglafpdealjlnaaGreat
