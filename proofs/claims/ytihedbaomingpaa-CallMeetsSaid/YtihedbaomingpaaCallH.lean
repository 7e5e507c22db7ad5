/- The walks of a call's Take, With and Got. -/
import Derived.Test.YtihedbaomingpaaCallG
namespace Go.Proofs.Ytihedbaomingpaa
open Go.RowKit
set_option linter.unusedSimpArgs false
set_option linter.unusedVariables false
set_option maxRecDepth 20000

def takeR (does : Int) (vs : List Value) (w : World) : Prop := match vs with
  | [] => True
  | [m] => ∃ g, m = .map (some g) ∧ TabM encRole w g roleTabV
  | [_, r] => r = .int .i64 does
  | [_, _, r] => r = .int .i64 does
  | _ => False
theorem role_look (kind : Int) (out : Bool) : (lookV (kind, out) roleTabV).getD (.int .i64 0) = .int .i64 (roleOf kind out) := by
  have h : ∀ l : List ((Int × Bool) × Int), lookV (kind, out) (l.map fun p => (p.1, Value.int .i64 p.2)) = (l.find? (fun p => (kind, out) == p.1)).map (fun p => Value.int .i64 p.2) := by
    intro l
    induction l with
    | nil => rfl
    | cons p l ih =>
      rw [List.map_cons, lookV, List.find?_cons]
      by_cases h : (kind, out) = p.1
      · simp [h]
      · have : ((kind, out) == p.1) = false := by simpa using h
        rw [if_neg (by simpa using h), this]
        exact ih
  rw [roleTabV, h, roleOf]
  cases roleTab.find? (fun p => (kind, out) == p.1) <;> rfl
set_option maxHeartbeats 8000000 in
theorem take_any (b : Nat) (k : K) (l : List Av) (t s ns nr : Int) (v : Value) (w : World) (h : CallAt w b k) (hl : AvsAt w v l) (hs : ∀ a ∈ l, a.val.size ≤ maxLen) (hok : k.ok) (hlen : l.length ≤ 1000000)
    (hfar : ∀ W, Upd [b] w W → AvsAt W v l) :
    Calls Try.prog 11 #[.pointer (some ⟨b, 0, none⟩), .agg #[.int .i64 t, .int .i64 s, .int .i64 ns, .int .i64 nr, v]] w (SaidEnd w b (k.take l)) := by
  have HC := Lib.hid h
  have HS := Lib.hid hs
  have HOK := Lib.hid hok
  have hm := hok.m
  obtain ⟨ao, cap, hv, hv1, hv2, -⟩ := id hl
  subst hv
  obtain ⟨nl, hnl⟩ : ∃ n, n = l.length := ⟨_, rfl⟩
  rw [← hnl] at hv1 hl hfar
  simp only [← hnl]
  have HFAR := Lib.hid hfar
  have HCB := Lib.hid (h.upd ((Upd.refl [] w).alloc (.cells #[.int .i64 t, .int .i64 s, .int .i64 ns, .int .i64 nr, (.slice ao nl cap)] 33)))
  have HLB := Lib.hid (hl.upd ((Upd.refl [] w).alloc (.cells #[.int .i64 t, .int .i64 s, .int .i64 ns, .int .i64 nr, (.slice ao nl cap)] 33)))
  obtain ⟨vw, vg, hb⟩ := h.cells_
  have g5 := hb.cell 5
  have hlt := hb.lt
  simp [K.cells] at g5
  clear hb h hl hs hok hnl hv1 hv2 hfar
  by_cases t4 : k.state = 4
  · have HG : Hid (k.take l = (k, [])) := by show _ = _; unfold K.take; rw [if_pos t4]
    rw [t4] at g5
    clear t4
    go_enter Try.func11, Try.ntmps11
    go_wp2_with fail
    refine (none_any b k _ HCB.out).mono ?_
    rintro e w1 ⟨rfl, rfl⟩
    rw [hm]
    go_wp2_with fail
    go_ret
    rw [HG.out]
    exact ⟨⟨_, [], rfl, SaysAt.nil _, HCB.out, (Upd.refl [b] w).alloc _⟩⟩
  have tb4 : (k.state == 4) = false := by simpa using t4
  obtain ⟨kd, hkd⟩ : ∃ x, x = kindOf l := ⟨_, rfl⟩
  obtain ⟨d, hd⟩ : ∃ x, x = roleOf kd k.out := ⟨_, rfl⟩
  obtain ⟨ck, hck⟩ : ∃ x, x = checkOf l := ⟨_, rfl⟩
  have HKD := Lib.hid hkd
  have HD := Lib.hid hd
  have HCK := Lib.hid hck
  clear hkd hd hck
  by_cases t0 : k.state = 0
  · have tb0 : (k.state == 0) = true := by simpa using t0
    by_cases t1 : d = 1
    · have tb1 : (d != 1) = false := by simpa using t1
      have HNI : Hid (¬ (k.state = 0 ∧ d ≠ 1)) := by show ¬ _; simp [t1]
      clear t1 t0
      by_cases tc : ck = 0
      · by_cases tk : kd = 14
        · have HG : Hid (k.take l = ({ k with state := 4 }, [])) := by
            show _ = _
            unfold K.take
            rw [← HKD.out, ← HD.out, ← HCK.out]
            rw [if_neg t4, if_neg HNI.out, if_neg (by simp [tc]), if_pos tk]
          have tkb : (kd == 14) = true := by simpa using tk
          have HT := Lib.hid tk
          clear tk t4
          go_enter Try.func11, Try.ntmps11
          go_wp2_with fail
          refine (none_any b k _ HCB.out).mono ?_
          rintro e w1 ⟨rfl, rfl⟩
          rw [hm]
          go_wp2_with fail
          refine (kind_any t s ns nr _ l _ HLB.out HS.out).mono ?_
          rintro e w2 ⟨rfl, hu2⟩
          have HC2 := Lib.hid (HCB.out.upd hu2)
          have HU2 : Hid (Upd [b] w w2) := (((Upd.refl [] w).alloc _).trans hu2).mono (by simp)
          have HL2 := Lib.hid (HLB.out.upd hu2)
          have HB2 : Hid (Blk w2 w.heap.size 33 #[.int .i64 t, .int .i64 s, .int .i64 ns, .int .i64 nr, (.slice ao nl cap)]) := (Blk.new w 33 _).upd hu2 (by simp)
          clear hu2 g5
          rw [← HKD.out]
          go_upto_region 4 with (fail)
          refine wp_region_chain [none, some (.int .i64 kd), some (.pointer (some ⟨b, 0, none⟩)), some (.pointer (some ⟨b, 0, none⟩)), some (.pointer (some ⟨b, 3, none⟩)), some (.bool k.out), some (.agg #[.int .i64 kd, .bool k.out]), none, none] [0,7,8] (stageA w2 (takeR (roleOf kd k.out))) [(0, 0), (0, 1), (0, 1), (0, 1), (0, 1), (0, 1), (0, 1), (1, 1), (2, 2)] (by kernel_rfl) (by kernel_rfl) (by kernel_rfl) (by kernel_rfl) (by kernel_rfl) (by kernel_rfl) (⟨(Upd.refl [] _).drew, trivial⟩) ?_ ?_
          · refine StepsC.cons ?_ (StepsC.cons ?_ (StepsC.cons ?_ (StepsC.cons ?_ (StepsC.cons ?_ (StepsC.cons ?_ (StepsC.cons ?_ (StepsC.cons ?_ (StepsC.cons ?_ StepsC.nil))))))))
            · refine chain_call (.inl rfl) ⟨_, rfl⟩ (by kernel_rfl) ?_
              intro a W kst l0 h0 A0 hF hD
              have k0 : kst = 0 := Nat.le_antisymm h0 l0
              subst k0
              clear l0 h0
              clear hF hD
              have hu := A0.1
              refine ⟨_, _, by (go_simp; first | done | rfl | exact ⟨rfl, rfl⟩), ?_⟩
              refine (roles_any _).mono ?_
              rintro e w3 ⟨rfl, ht, hu2⟩
              exact ⟨_, rfl, trivial, hu.trans hu2, _, rfl, ht⟩
            · refine chain_is _ (.inl rfl) ⟨_, rfl⟩ (by kernel_rfl) rfl ?_
              intro a W kst l0 h0 A0 hF hD
              have e5 : a.tmps[5]?.getD undef = _ := (ev a 5).symm.trans (hF 5 (by kernel_rfl))
              clear hF hD
              go_simp
            · refine chain_is _ (.inl rfl) ⟨_, rfl⟩ (by kernel_rfl) rfl ?_
              intro a W kst l0 h0 A0 hF hD
              have e0 : a.tmps[0]?.getD undef = _ := (ev a 0).symm.trans (hF 0 (by kernel_rfl))
              clear hF hD
              go_simp
            · refine chain_is _ (.inl rfl) ⟨_, rfl⟩ (by kernel_rfl) rfl ?_
              intro a W kst l0 h0 A0 hF hD
              have e20 : a.tmps[20]?.getD undef = .pointer (some ⟨b, 0, none⟩) := (ev a 20).symm.trans (hD _ (Array.mem_of_getElem? (i := 0) rfl) rfl)
              clear hF hD
              go_simp
            · refine chain_is _ (.inl rfl) ⟨_, rfl⟩ (by kernel_rfl) rfl ?_
              intro a W kst l0 h0 A0 hF hD
              have e21 : a.tmps[21]?.getD undef = .pointer (some ⟨b, 0, none⟩) := (ev a 21).symm.trans (hD _ (Array.mem_of_getElem? (i := 0) rfl) rfl)
              clear hF hD
              go_simp
            · refine chain_is _ (.inl rfl) ⟨_, rfl⟩ (by kernel_rfl) rfl ?_
              intro a W kst l0 h0 A0 hF hD
              have e22 : a.tmps[22]?.getD undef = .pointer (some ⟨b, 3, none⟩) := (ev a 22).symm.trans (hD _ (Array.mem_of_getElem? (i := 0) rfl) rfl)
              clear hF hD
              have hu := A0.1
              obtain ⟨vw2, vg2, hb2⟩ := (HC2.out.upd hu).cells_
              have g3 := hb2.cell 3
              simp [K.cells] at g3
              go_simp
            · refine chain_is _ (.inl rfl) ⟨_, rfl⟩ (by kernel_rfl) rfl ?_
              intro a W kst l0 h0 A0 hF hD
              have e19 : a.tmps[19]?.getD undef = .int .i64 kd := (ev a 19).symm.trans (hD _ (Array.mem_of_getElem? (i := 0) rfl) rfl)
              have e23 : a.tmps[23]?.getD undef = .bool k.out := (ev a 23).symm.trans (hD _ (Array.mem_of_getElem? (i := 1) rfl) rfl)
              clear hF hD
              go_simp
            · refine chain_run (.inl rfl) ⟨_, rfl⟩ (by kernel_rfl) ?_
              intro a W kst l0 h0 A0 hF hD
              have k0 : kst = 1 := Nat.le_antisymm h0 l0
              subst k0
              clear l0 h0
              have e24 : a.tmps[24]?.getD undef = .agg #[.int .i64 kd, .bool k.out] := (ev a 24).symm.trans (hD _ (Array.mem_of_getElem? (i := 1) rfl) rfl)
              clear hF hD
              obtain ⟨hu, g, hg, ht⟩ := A0
              have e18 : a.tmps[18]?.getD undef = _ := (ev a 18).symm.trans hg
              have hz : (zeroValue 3).run Try.prog W = .ok (.int .i64 0) W := by kernel_rfl
              have hl := (ht.look roleTabV_fun role_key Try.underlying62 hz (kd, k.out)).2
              rw [role_look] at hl
              simp only [encRole] at hl
              exact ⟨_, W, by (go_simp; first | done | rfl | exact ⟨rfl, rfl⟩), trivial, hu, rfl⟩
            · refine chain_run (.inl rfl) ⟨_, rfl⟩ (by kernel_rfl) ?_
              intro a W kst l0 h0 A0 hF hD
              have k0 : kst = 2 := Nat.le_antisymm h0 l0
              subst k0
              clear l0 h0
              clear hF hD
              obtain ⟨hu, h1⟩ := A0
              have e25 : a.tmps[25]?.getD undef = _ := (ev a 25).symm.trans h1
              exact ⟨_, W, by (go_simp; first | done | rfl | exact ⟨rfl, rfl⟩), trivial, hu, rfl⟩
          intro vals W hv hA
          have v1 : vals 1 = .int .i64 kd := hv 1 (by decide)
          have v2 : vals 2 = .pointer (some ⟨b, 0, none⟩) := hv 2 (by decide)
          have v3 : vals 3 = .pointer (some ⟨b, 0, none⟩) := hv 3 (by decide)
          have v4 : vals 4 = .pointer (some ⟨b, 3, none⟩) := hv 4 (by decide)
          have v5 : vals 5 = .bool k.out := hv 5 (by decide)
          have v6 : vals 6 = .agg #[.int .i64 kd, .bool k.out] := hv 6 (by decide)
          clear hv
          obtain ⟨hu, h8⟩ := hA
          have h8 : vals 8 = .int .i64 (roleOf kd k.out) := h8
          rw [← HD.out] at h8
          simp only [putAll, Act.put, Nat.zero_add, Nat.reduceAdd, h8, v1, v2, v3, v4, v5, v6, List.setIfInBounds_toArray, List.set_cons_zero, List.set_cons_succ]
          clear v1 v2 v3 v4 v5 v6
          have HC4 := Lib.hid (HC2.out.upd hu)
          have HU4 : Hid (Upd [b] w W) := HU2.out.trans (hu.mono (by simp))
          have HL4 := Lib.hid (HL2.out.upd hu)
          have hb4 := HB2.out.upd hu (by simp)
          have q0 := hb4.cell 0
          have q1 := hb4.cell 1
          have q2 := hb4.cell 2
          have q3 := hb4.cell 3
          have q4 := hb4.cell 4
          simp at q0 q1 q2 q3 q4
          obtain ⟨vw4, vg4, hc4⟩ := HC4.out.cells_
          have g5 := hc4.cell 5
          have f5 := hc4.frozen 5
          have lt4 := hc4.lt
          simp [K.cells] at g5
          have hwl : w.heap.size < W.heap.size := hb4.lt
          clear hu h8 hb4 hc4 HB2 HC2 HU2 HL2
          go_wp2_with fail
          refine (check_any t s ns nr _ l _ HL4.out HS.out).mono ?_
          rintro e w5 ⟨rfl, hu5⟩
          have HC5 := Lib.hid (HC4.out.upd hu5)
          have HU5 : Hid (Upd [b] w w5) := HU4.out.trans (hu5.mono (by simp))
          have HL5 := Lib.hid (HL4.out.upd hu5)
          obtain ⟨vw5, vg5, hc5⟩ := HC5.out.cells_
          have g5b := hc5.cell 5
          have f5b := hc5.frozen 5
          simp [K.cells] at g5b
          have Q := fun (i : Nat) => hu5.cell (p := ⟨w.heap.size, i, none⟩) hwl (by simp)
          have p0 := (Q 0).trans q0
          have p1 := (Q 1).trans q1
          have p2 := (Q 2).trans q2
          have p3 := (Q 3).trans q3
          have p4 := (Q 4).trans q4
          have hlt5 := hc5.lt
          clear Q q0 q1 q2 q3 q4 hu5 g5 f5 hc5 lt4 hwl
          rw [← HCK.out]
          rw [tc]
          have HKS := Lib.hid (HC5.out.set 5 (.int .i64 4) (k' := { k with state := 4 }) (fun _ _ => rfl) rfl rfl)
          go_wp2_with fail
          go_ret
          rw [HG.out]
          exact ⟨⟨_, [], rfl, SaysAt.nil _, HKS.out, HU5.out.setCell _ (.inl (by simp))⟩⟩
        · have HG : Hid (k.take l = k.handle kd d l) := by
            show _ = _
            unfold K.take
            rw [← HKD.out, ← HD.out, ← HCK.out]
            rw [if_neg t4, if_neg HNI.out, if_neg (by simp [tc]), if_neg tk]
          have tkb : (kd == 14) = false := by simpa using tk
          clear tk t4
          go_enter Try.func11, Try.ntmps11
          go_wp2_with fail
          refine (none_any b k _ HCB.out).mono ?_
          rintro e w1 ⟨rfl, rfl⟩
          rw [hm]
          go_wp2_with fail
          refine (kind_any t s ns nr _ l _ HLB.out HS.out).mono ?_
          rintro e w2 ⟨rfl, hu2⟩
          have HC2 := Lib.hid (HCB.out.upd hu2)
          have HU2 : Hid (Upd [b] w w2) := (((Upd.refl [] w).alloc _).trans hu2).mono (by simp)
          have HL2 := Lib.hid (HLB.out.upd hu2)
          have HB2 : Hid (Blk w2 w.heap.size 33 #[.int .i64 t, .int .i64 s, .int .i64 ns, .int .i64 nr, (.slice ao nl cap)]) := (Blk.new w 33 _).upd hu2 (by simp)
          clear hu2 g5
          rw [← HKD.out]
          go_upto_region 4 with (fail)
          refine wp_region_chain [none, some (.int .i64 kd), some (.pointer (some ⟨b, 0, none⟩)), some (.pointer (some ⟨b, 0, none⟩)), some (.pointer (some ⟨b, 3, none⟩)), some (.bool k.out), some (.agg #[.int .i64 kd, .bool k.out]), none, none] [0,7,8] (stageA w2 (takeR (roleOf kd k.out))) [(0, 0), (0, 1), (0, 1), (0, 1), (0, 1), (0, 1), (0, 1), (1, 1), (2, 2)] (by kernel_rfl) (by kernel_rfl) (by kernel_rfl) (by kernel_rfl) (by kernel_rfl) (by kernel_rfl) (⟨(Upd.refl [] _).drew, trivial⟩) ?_ ?_
          · refine StepsC.cons ?_ (StepsC.cons ?_ (StepsC.cons ?_ (StepsC.cons ?_ (StepsC.cons ?_ (StepsC.cons ?_ (StepsC.cons ?_ (StepsC.cons ?_ (StepsC.cons ?_ StepsC.nil))))))))
            · refine chain_call (.inl rfl) ⟨_, rfl⟩ (by kernel_rfl) ?_
              intro a W kst l0 h0 A0 hF hD
              have k0 : kst = 0 := Nat.le_antisymm h0 l0
              subst k0
              clear l0 h0
              clear hF hD
              have hu := A0.1
              refine ⟨_, _, by (go_simp; first | done | rfl | exact ⟨rfl, rfl⟩), ?_⟩
              refine (roles_any _).mono ?_
              rintro e w3 ⟨rfl, ht, hu2⟩
              exact ⟨_, rfl, trivial, hu.trans hu2, _, rfl, ht⟩
            · refine chain_is _ (.inl rfl) ⟨_, rfl⟩ (by kernel_rfl) rfl ?_
              intro a W kst l0 h0 A0 hF hD
              have e5 : a.tmps[5]?.getD undef = _ := (ev a 5).symm.trans (hF 5 (by kernel_rfl))
              clear hF hD
              go_simp
            · refine chain_is _ (.inl rfl) ⟨_, rfl⟩ (by kernel_rfl) rfl ?_
              intro a W kst l0 h0 A0 hF hD
              have e0 : a.tmps[0]?.getD undef = _ := (ev a 0).symm.trans (hF 0 (by kernel_rfl))
              clear hF hD
              go_simp
            · refine chain_is _ (.inl rfl) ⟨_, rfl⟩ (by kernel_rfl) rfl ?_
              intro a W kst l0 h0 A0 hF hD
              have e20 : a.tmps[20]?.getD undef = .pointer (some ⟨b, 0, none⟩) := (ev a 20).symm.trans (hD _ (Array.mem_of_getElem? (i := 0) rfl) rfl)
              clear hF hD
              go_simp
            · refine chain_is _ (.inl rfl) ⟨_, rfl⟩ (by kernel_rfl) rfl ?_
              intro a W kst l0 h0 A0 hF hD
              have e21 : a.tmps[21]?.getD undef = .pointer (some ⟨b, 0, none⟩) := (ev a 21).symm.trans (hD _ (Array.mem_of_getElem? (i := 0) rfl) rfl)
              clear hF hD
              go_simp
            · refine chain_is _ (.inl rfl) ⟨_, rfl⟩ (by kernel_rfl) rfl ?_
              intro a W kst l0 h0 A0 hF hD
              have e22 : a.tmps[22]?.getD undef = .pointer (some ⟨b, 3, none⟩) := (ev a 22).symm.trans (hD _ (Array.mem_of_getElem? (i := 0) rfl) rfl)
              clear hF hD
              have hu := A0.1
              obtain ⟨vw2, vg2, hb2⟩ := (HC2.out.upd hu).cells_
              have g3 := hb2.cell 3
              simp [K.cells] at g3
              go_simp
            · refine chain_is _ (.inl rfl) ⟨_, rfl⟩ (by kernel_rfl) rfl ?_
              intro a W kst l0 h0 A0 hF hD
              have e19 : a.tmps[19]?.getD undef = .int .i64 kd := (ev a 19).symm.trans (hD _ (Array.mem_of_getElem? (i := 0) rfl) rfl)
              have e23 : a.tmps[23]?.getD undef = .bool k.out := (ev a 23).symm.trans (hD _ (Array.mem_of_getElem? (i := 1) rfl) rfl)
              clear hF hD
              go_simp
            · refine chain_run (.inl rfl) ⟨_, rfl⟩ (by kernel_rfl) ?_
              intro a W kst l0 h0 A0 hF hD
              have k0 : kst = 1 := Nat.le_antisymm h0 l0
              subst k0
              clear l0 h0
              have e24 : a.tmps[24]?.getD undef = .agg #[.int .i64 kd, .bool k.out] := (ev a 24).symm.trans (hD _ (Array.mem_of_getElem? (i := 1) rfl) rfl)
              clear hF hD
              obtain ⟨hu, g, hg, ht⟩ := A0
              have e18 : a.tmps[18]?.getD undef = _ := (ev a 18).symm.trans hg
              have hz : (zeroValue 3).run Try.prog W = .ok (.int .i64 0) W := by kernel_rfl
              have hl := (ht.look roleTabV_fun role_key Try.underlying62 hz (kd, k.out)).2
              rw [role_look] at hl
              simp only [encRole] at hl
              exact ⟨_, W, by (go_simp; first | done | rfl | exact ⟨rfl, rfl⟩), trivial, hu, rfl⟩
            · refine chain_run (.inl rfl) ⟨_, rfl⟩ (by kernel_rfl) ?_
              intro a W kst l0 h0 A0 hF hD
              have k0 : kst = 2 := Nat.le_antisymm h0 l0
              subst k0
              clear l0 h0
              clear hF hD
              obtain ⟨hu, h1⟩ := A0
              have e25 : a.tmps[25]?.getD undef = _ := (ev a 25).symm.trans h1
              exact ⟨_, W, by (go_simp; first | done | rfl | exact ⟨rfl, rfl⟩), trivial, hu, rfl⟩
          intro vals W hv hA
          have v1 : vals 1 = .int .i64 kd := hv 1 (by decide)
          have v2 : vals 2 = .pointer (some ⟨b, 0, none⟩) := hv 2 (by decide)
          have v3 : vals 3 = .pointer (some ⟨b, 0, none⟩) := hv 3 (by decide)
          have v4 : vals 4 = .pointer (some ⟨b, 3, none⟩) := hv 4 (by decide)
          have v5 : vals 5 = .bool k.out := hv 5 (by decide)
          have v6 : vals 6 = .agg #[.int .i64 kd, .bool k.out] := hv 6 (by decide)
          clear hv
          obtain ⟨hu, h8⟩ := hA
          have h8 : vals 8 = .int .i64 (roleOf kd k.out) := h8
          rw [← HD.out] at h8
          simp only [putAll, Act.put, Nat.zero_add, Nat.reduceAdd, h8, v1, v2, v3, v4, v5, v6, List.setIfInBounds_toArray, List.set_cons_zero, List.set_cons_succ]
          clear v1 v2 v3 v4 v5 v6
          have HC4 := Lib.hid (HC2.out.upd hu)
          have HU4 : Hid (Upd [b] w W) := HU2.out.trans (hu.mono (by simp))
          have HL4 := Lib.hid (HL2.out.upd hu)
          have hb4 := HB2.out.upd hu (by simp)
          have q0 := hb4.cell 0
          have q1 := hb4.cell 1
          have q2 := hb4.cell 2
          have q3 := hb4.cell 3
          have q4 := hb4.cell 4
          simp at q0 q1 q2 q3 q4
          obtain ⟨vw4, vg4, hc4⟩ := HC4.out.cells_
          have g5 := hc4.cell 5
          have f5 := hc4.frozen 5
          have lt4 := hc4.lt
          simp [K.cells] at g5
          have hwl : w.heap.size < W.heap.size := hb4.lt
          clear hu h8 hb4 hc4 HB2 HC2 HU2 HL2
          go_wp2_with fail
          refine (check_any t s ns nr _ l _ HL4.out HS.out).mono ?_
          rintro e w5 ⟨rfl, hu5⟩
          have HC5 := Lib.hid (HC4.out.upd hu5)
          have HU5 : Hid (Upd [b] w w5) := HU4.out.trans (hu5.mono (by simp))
          have HL5 := Lib.hid (HL4.out.upd hu5)
          obtain ⟨vw5, vg5, hc5⟩ := HC5.out.cells_
          have g5b := hc5.cell 5
          have f5b := hc5.frozen 5
          simp [K.cells] at g5b
          have Q := fun (i : Nat) => hu5.cell (p := ⟨w.heap.size, i, none⟩) hwl (by simp)
          have p0 := (Q 0).trans q0
          have p1 := (Q 1).trans q1
          have p2 := (Q 2).trans q2
          have p3 := (Q 3).trans q3
          have p4 := (Q 4).trans q4
          have hlt5 := hc5.lt
          clear Q q0 q1 q2 q3 q4 hu5 g5 f5 hc5 lt4 hwl
          rw [← HCK.out]
          rw [tc]
          go_wp2_with fail
          refine (handle_any b k l kd d t s ns nr _ _ HC5.out HL5.out HS.out HOK.out hlen (fun W2 hw => HFAR.out _ (HU5.out.trans hw))).mono ?_
          rintro e w6 ⟨v6, own6, rfl, h1, h2, h3⟩
          have HX := Lib.hid (And.intro h1 (And.intro h2 (HU5.out.trans h3)))
          clear h1 h2 h3 g5b f5b p0 p1 p2 p3 p4
          go_wp2_with fail
          go_ret
          rw [HG.out]
          exact ⟨⟨_, own6, rfl, HX.out⟩⟩
      · have HG : Hid (k.take l = k.fin 2) := by
          show _ = _
          unfold K.take
          rw [← HKD.out, ← HD.out, ← HCK.out]
          rw [if_neg t4, if_neg HNI.out, if_pos tc]
        have tcb : (ck != 0) = true := by simpa using tc
        clear t4
        go_enter Try.func11, Try.ntmps11
        go_wp2_with fail
        refine (none_any b k _ HCB.out).mono ?_
        rintro e w1 ⟨rfl, rfl⟩
        rw [hm]
        go_wp2_with fail
        refine (kind_any t s ns nr _ l _ HLB.out HS.out).mono ?_
        rintro e w2 ⟨rfl, hu2⟩
        have HC2 := Lib.hid (HCB.out.upd hu2)
        have HU2 : Hid (Upd [b] w w2) := (((Upd.refl [] w).alloc _).trans hu2).mono (by simp)
        have HL2 := Lib.hid (HLB.out.upd hu2)
        have HB2 : Hid (Blk w2 w.heap.size 33 #[.int .i64 t, .int .i64 s, .int .i64 ns, .int .i64 nr, (.slice ao nl cap)]) := (Blk.new w 33 _).upd hu2 (by simp)
        clear hu2 g5
        rw [← HKD.out]
        go_upto_region 4 with (fail)
        refine wp_region_chain [none, some (.int .i64 kd), some (.pointer (some ⟨b, 0, none⟩)), some (.pointer (some ⟨b, 0, none⟩)), some (.pointer (some ⟨b, 3, none⟩)), some (.bool k.out), some (.agg #[.int .i64 kd, .bool k.out]), none, none] [0,7,8] (stageA w2 (takeR (roleOf kd k.out))) [(0, 0), (0, 1), (0, 1), (0, 1), (0, 1), (0, 1), (0, 1), (1, 1), (2, 2)] (by kernel_rfl) (by kernel_rfl) (by kernel_rfl) (by kernel_rfl) (by kernel_rfl) (by kernel_rfl) (⟨(Upd.refl [] _).drew, trivial⟩) ?_ ?_
        · refine StepsC.cons ?_ (StepsC.cons ?_ (StepsC.cons ?_ (StepsC.cons ?_ (StepsC.cons ?_ (StepsC.cons ?_ (StepsC.cons ?_ (StepsC.cons ?_ (StepsC.cons ?_ StepsC.nil))))))))
          · refine chain_call (.inl rfl) ⟨_, rfl⟩ (by kernel_rfl) ?_
            intro a W kst l0 h0 A0 hF hD
            have k0 : kst = 0 := Nat.le_antisymm h0 l0
            subst k0
            clear l0 h0
            clear hF hD
            have hu := A0.1
            refine ⟨_, _, by (go_simp; first | done | rfl | exact ⟨rfl, rfl⟩), ?_⟩
            refine (roles_any _).mono ?_
            rintro e w3 ⟨rfl, ht, hu2⟩
            exact ⟨_, rfl, trivial, hu.trans hu2, _, rfl, ht⟩
          · refine chain_is _ (.inl rfl) ⟨_, rfl⟩ (by kernel_rfl) rfl ?_
            intro a W kst l0 h0 A0 hF hD
            have e5 : a.tmps[5]?.getD undef = _ := (ev a 5).symm.trans (hF 5 (by kernel_rfl))
            clear hF hD
            go_simp
          · refine chain_is _ (.inl rfl) ⟨_, rfl⟩ (by kernel_rfl) rfl ?_
            intro a W kst l0 h0 A0 hF hD
            have e0 : a.tmps[0]?.getD undef = _ := (ev a 0).symm.trans (hF 0 (by kernel_rfl))
            clear hF hD
            go_simp
          · refine chain_is _ (.inl rfl) ⟨_, rfl⟩ (by kernel_rfl) rfl ?_
            intro a W kst l0 h0 A0 hF hD
            have e20 : a.tmps[20]?.getD undef = .pointer (some ⟨b, 0, none⟩) := (ev a 20).symm.trans (hD _ (Array.mem_of_getElem? (i := 0) rfl) rfl)
            clear hF hD
            go_simp
          · refine chain_is _ (.inl rfl) ⟨_, rfl⟩ (by kernel_rfl) rfl ?_
            intro a W kst l0 h0 A0 hF hD
            have e21 : a.tmps[21]?.getD undef = .pointer (some ⟨b, 0, none⟩) := (ev a 21).symm.trans (hD _ (Array.mem_of_getElem? (i := 0) rfl) rfl)
            clear hF hD
            go_simp
          · refine chain_is _ (.inl rfl) ⟨_, rfl⟩ (by kernel_rfl) rfl ?_
            intro a W kst l0 h0 A0 hF hD
            have e22 : a.tmps[22]?.getD undef = .pointer (some ⟨b, 3, none⟩) := (ev a 22).symm.trans (hD _ (Array.mem_of_getElem? (i := 0) rfl) rfl)
            clear hF hD
            have hu := A0.1
            obtain ⟨vw2, vg2, hb2⟩ := (HC2.out.upd hu).cells_
            have g3 := hb2.cell 3
            simp [K.cells] at g3
            go_simp
          · refine chain_is _ (.inl rfl) ⟨_, rfl⟩ (by kernel_rfl) rfl ?_
            intro a W kst l0 h0 A0 hF hD
            have e19 : a.tmps[19]?.getD undef = .int .i64 kd := (ev a 19).symm.trans (hD _ (Array.mem_of_getElem? (i := 0) rfl) rfl)
            have e23 : a.tmps[23]?.getD undef = .bool k.out := (ev a 23).symm.trans (hD _ (Array.mem_of_getElem? (i := 1) rfl) rfl)
            clear hF hD
            go_simp
          · refine chain_run (.inl rfl) ⟨_, rfl⟩ (by kernel_rfl) ?_
            intro a W kst l0 h0 A0 hF hD
            have k0 : kst = 1 := Nat.le_antisymm h0 l0
            subst k0
            clear l0 h0
            have e24 : a.tmps[24]?.getD undef = .agg #[.int .i64 kd, .bool k.out] := (ev a 24).symm.trans (hD _ (Array.mem_of_getElem? (i := 1) rfl) rfl)
            clear hF hD
            obtain ⟨hu, g, hg, ht⟩ := A0
            have e18 : a.tmps[18]?.getD undef = _ := (ev a 18).symm.trans hg
            have hz : (zeroValue 3).run Try.prog W = .ok (.int .i64 0) W := by kernel_rfl
            have hl := (ht.look roleTabV_fun role_key Try.underlying62 hz (kd, k.out)).2
            rw [role_look] at hl
            simp only [encRole] at hl
            exact ⟨_, W, by (go_simp; first | done | rfl | exact ⟨rfl, rfl⟩), trivial, hu, rfl⟩
          · refine chain_run (.inl rfl) ⟨_, rfl⟩ (by kernel_rfl) ?_
            intro a W kst l0 h0 A0 hF hD
            have k0 : kst = 2 := Nat.le_antisymm h0 l0
            subst k0
            clear l0 h0
            clear hF hD
            obtain ⟨hu, h1⟩ := A0
            have e25 : a.tmps[25]?.getD undef = _ := (ev a 25).symm.trans h1
            exact ⟨_, W, by (go_simp; first | done | rfl | exact ⟨rfl, rfl⟩), trivial, hu, rfl⟩
        intro vals W hv hA
        have v1 : vals 1 = .int .i64 kd := hv 1 (by decide)
        have v2 : vals 2 = .pointer (some ⟨b, 0, none⟩) := hv 2 (by decide)
        have v3 : vals 3 = .pointer (some ⟨b, 0, none⟩) := hv 3 (by decide)
        have v4 : vals 4 = .pointer (some ⟨b, 3, none⟩) := hv 4 (by decide)
        have v5 : vals 5 = .bool k.out := hv 5 (by decide)
        have v6 : vals 6 = .agg #[.int .i64 kd, .bool k.out] := hv 6 (by decide)
        clear hv
        obtain ⟨hu, h8⟩ := hA
        have h8 : vals 8 = .int .i64 (roleOf kd k.out) := h8
        rw [← HD.out] at h8
        simp only [putAll, Act.put, Nat.zero_add, Nat.reduceAdd, h8, v1, v2, v3, v4, v5, v6, List.setIfInBounds_toArray, List.set_cons_zero, List.set_cons_succ]
        clear v1 v2 v3 v4 v5 v6
        have HC4 := Lib.hid (HC2.out.upd hu)
        have HU4 : Hid (Upd [b] w W) := HU2.out.trans (hu.mono (by simp))
        have HL4 := Lib.hid (HL2.out.upd hu)
        have hb4 := HB2.out.upd hu (by simp)
        have q0 := hb4.cell 0
        have q1 := hb4.cell 1
        have q2 := hb4.cell 2
        have q3 := hb4.cell 3
        have q4 := hb4.cell 4
        simp at q0 q1 q2 q3 q4
        obtain ⟨vw4, vg4, hc4⟩ := HC4.out.cells_
        have g5 := hc4.cell 5
        have f5 := hc4.frozen 5
        have lt4 := hc4.lt
        simp [K.cells] at g5
        have hwl : w.heap.size < W.heap.size := hb4.lt
        clear hu h8 hb4 hc4 HB2 HC2 HU2 HL2
        go_wp2_with fail
        refine (check_any t s ns nr _ l _ HL4.out HS.out).mono ?_
        rintro e w5 ⟨rfl, hu5⟩
        have HC5 := Lib.hid (HC4.out.upd hu5)
        have HU5 : Hid (Upd [b] w w5) := HU4.out.trans (hu5.mono (by simp))
        have HL5 := Lib.hid (HL4.out.upd hu5)
        obtain ⟨vw5, vg5, hc5⟩ := HC5.out.cells_
        have g5b := hc5.cell 5
        have f5b := hc5.frozen 5
        simp [K.cells] at g5b
        have Q := fun (i : Nat) => hu5.cell (p := ⟨w.heap.size, i, none⟩) hwl (by simp)
        have p0 := (Q 0).trans q0
        have p1 := (Q 1).trans q1
        have p2 := (Q 2).trans q2
        have p3 := (Q 3).trans q3
        have p4 := (Q 4).trans q4
        have hlt5 := hc5.lt
        clear Q q0 q1 q2 q3 q4 hu5 g5 f5 hc5 lt4 hwl
        rw [← HCK.out]
        go_wp2_with fail
        refine (end_any b k 2 _ HC5.out).mono ?_
        rintro e w6 ⟨v6, own6, rfl, h1, h2, h3⟩
        have HX := Lib.hid (And.intro h1 (And.intro h2 (HU5.out.trans h3)))
        clear h1 h2 h3 g5b f5b p0 p1 p2 p3 p4
        go_wp2_with fail
        go_ret
        rw [HG.out]
        exact ⟨⟨_, own6, rfl, HX.out⟩⟩
    · have HG : Hid (k.take l = (k, [])) := by
        show _ = _
        unfold K.take
        rw [← HKD.out, ← HD.out, ← HCK.out]
        rw [if_neg t4, if_pos ⟨t0, t1⟩]
      have tb1 : (d != 1) = true := by simpa using t1
      clear t4 t0 t1
      go_enter Try.func11, Try.ntmps11
      go_wp2_with fail
      refine (none_any b k _ HCB.out).mono ?_
      rintro e w1 ⟨rfl, rfl⟩
      rw [hm]
      go_wp2_with fail
      refine (kind_any t s ns nr _ l _ HLB.out HS.out).mono ?_
      rintro e w2 ⟨rfl, hu2⟩
      have HC2 := Lib.hid (HCB.out.upd hu2)
      have HU2 : Hid (Upd [b] w w2) := (((Upd.refl [] w).alloc _).trans hu2).mono (by simp)
      have HL2 := Lib.hid (HLB.out.upd hu2)
      have HB2 : Hid (Blk w2 w.heap.size 33 #[.int .i64 t, .int .i64 s, .int .i64 ns, .int .i64 nr, (.slice ao nl cap)]) := (Blk.new w 33 _).upd hu2 (by simp)
      clear hu2 g5
      rw [← HKD.out]
      go_upto_region 4 with (fail)
      refine wp_region_chain [none, some (.int .i64 kd), some (.pointer (some ⟨b, 0, none⟩)), some (.pointer (some ⟨b, 0, none⟩)), some (.pointer (some ⟨b, 3, none⟩)), some (.bool k.out), some (.agg #[.int .i64 kd, .bool k.out]), none, none] [0,7,8] (stageA w2 (takeR (roleOf kd k.out))) [(0, 0), (0, 1), (0, 1), (0, 1), (0, 1), (0, 1), (0, 1), (1, 1), (2, 2)] (by kernel_rfl) (by kernel_rfl) (by kernel_rfl) (by kernel_rfl) (by kernel_rfl) (by kernel_rfl) (⟨(Upd.refl [] _).drew, trivial⟩) ?_ ?_
      · refine StepsC.cons ?_ (StepsC.cons ?_ (StepsC.cons ?_ (StepsC.cons ?_ (StepsC.cons ?_ (StepsC.cons ?_ (StepsC.cons ?_ (StepsC.cons ?_ (StepsC.cons ?_ StepsC.nil))))))))
        · refine chain_call (.inl rfl) ⟨_, rfl⟩ (by kernel_rfl) ?_
          intro a W kst l0 h0 A0 hF hD
          have k0 : kst = 0 := Nat.le_antisymm h0 l0
          subst k0
          clear l0 h0
          clear hF hD
          have hu := A0.1
          refine ⟨_, _, by (go_simp; first | done | rfl | exact ⟨rfl, rfl⟩), ?_⟩
          refine (roles_any _).mono ?_
          rintro e w3 ⟨rfl, ht, hu2⟩
          exact ⟨_, rfl, trivial, hu.trans hu2, _, rfl, ht⟩
        · refine chain_is _ (.inl rfl) ⟨_, rfl⟩ (by kernel_rfl) rfl ?_
          intro a W kst l0 h0 A0 hF hD
          have e5 : a.tmps[5]?.getD undef = _ := (ev a 5).symm.trans (hF 5 (by kernel_rfl))
          clear hF hD
          go_simp
        · refine chain_is _ (.inl rfl) ⟨_, rfl⟩ (by kernel_rfl) rfl ?_
          intro a W kst l0 h0 A0 hF hD
          have e0 : a.tmps[0]?.getD undef = _ := (ev a 0).symm.trans (hF 0 (by kernel_rfl))
          clear hF hD
          go_simp
        · refine chain_is _ (.inl rfl) ⟨_, rfl⟩ (by kernel_rfl) rfl ?_
          intro a W kst l0 h0 A0 hF hD
          have e20 : a.tmps[20]?.getD undef = .pointer (some ⟨b, 0, none⟩) := (ev a 20).symm.trans (hD _ (Array.mem_of_getElem? (i := 0) rfl) rfl)
          clear hF hD
          go_simp
        · refine chain_is _ (.inl rfl) ⟨_, rfl⟩ (by kernel_rfl) rfl ?_
          intro a W kst l0 h0 A0 hF hD
          have e21 : a.tmps[21]?.getD undef = .pointer (some ⟨b, 0, none⟩) := (ev a 21).symm.trans (hD _ (Array.mem_of_getElem? (i := 0) rfl) rfl)
          clear hF hD
          go_simp
        · refine chain_is _ (.inl rfl) ⟨_, rfl⟩ (by kernel_rfl) rfl ?_
          intro a W kst l0 h0 A0 hF hD
          have e22 : a.tmps[22]?.getD undef = .pointer (some ⟨b, 3, none⟩) := (ev a 22).symm.trans (hD _ (Array.mem_of_getElem? (i := 0) rfl) rfl)
          clear hF hD
          have hu := A0.1
          obtain ⟨vw2, vg2, hb2⟩ := (HC2.out.upd hu).cells_
          have g3 := hb2.cell 3
          simp [K.cells] at g3
          go_simp
        · refine chain_is _ (.inl rfl) ⟨_, rfl⟩ (by kernel_rfl) rfl ?_
          intro a W kst l0 h0 A0 hF hD
          have e19 : a.tmps[19]?.getD undef = .int .i64 kd := (ev a 19).symm.trans (hD _ (Array.mem_of_getElem? (i := 0) rfl) rfl)
          have e23 : a.tmps[23]?.getD undef = .bool k.out := (ev a 23).symm.trans (hD _ (Array.mem_of_getElem? (i := 1) rfl) rfl)
          clear hF hD
          go_simp
        · refine chain_run (.inl rfl) ⟨_, rfl⟩ (by kernel_rfl) ?_
          intro a W kst l0 h0 A0 hF hD
          have k0 : kst = 1 := Nat.le_antisymm h0 l0
          subst k0
          clear l0 h0
          have e24 : a.tmps[24]?.getD undef = .agg #[.int .i64 kd, .bool k.out] := (ev a 24).symm.trans (hD _ (Array.mem_of_getElem? (i := 1) rfl) rfl)
          clear hF hD
          obtain ⟨hu, g, hg, ht⟩ := A0
          have e18 : a.tmps[18]?.getD undef = _ := (ev a 18).symm.trans hg
          have hz : (zeroValue 3).run Try.prog W = .ok (.int .i64 0) W := by kernel_rfl
          have hl := (ht.look roleTabV_fun role_key Try.underlying62 hz (kd, k.out)).2
          rw [role_look] at hl
          simp only [encRole] at hl
          exact ⟨_, W, by (go_simp; first | done | rfl | exact ⟨rfl, rfl⟩), trivial, hu, rfl⟩
        · refine chain_run (.inl rfl) ⟨_, rfl⟩ (by kernel_rfl) ?_
          intro a W kst l0 h0 A0 hF hD
          have k0 : kst = 2 := Nat.le_antisymm h0 l0
          subst k0
          clear l0 h0
          clear hF hD
          obtain ⟨hu, h1⟩ := A0
          have e25 : a.tmps[25]?.getD undef = _ := (ev a 25).symm.trans h1
          exact ⟨_, W, by (go_simp; first | done | rfl | exact ⟨rfl, rfl⟩), trivial, hu, rfl⟩
      intro vals W hv hA
      have v1 : vals 1 = .int .i64 kd := hv 1 (by decide)
      have v2 : vals 2 = .pointer (some ⟨b, 0, none⟩) := hv 2 (by decide)
      have v3 : vals 3 = .pointer (some ⟨b, 0, none⟩) := hv 3 (by decide)
      have v4 : vals 4 = .pointer (some ⟨b, 3, none⟩) := hv 4 (by decide)
      have v5 : vals 5 = .bool k.out := hv 5 (by decide)
      have v6 : vals 6 = .agg #[.int .i64 kd, .bool k.out] := hv 6 (by decide)
      clear hv
      obtain ⟨hu, h8⟩ := hA
      have h8 : vals 8 = .int .i64 (roleOf kd k.out) := h8
      rw [← HD.out] at h8
      simp only [putAll, Act.put, Nat.zero_add, Nat.reduceAdd, h8, v1, v2, v3, v4, v5, v6, List.setIfInBounds_toArray, List.set_cons_zero, List.set_cons_succ]
      clear v1 v2 v3 v4 v5 v6
      have HC4 := Lib.hid (HC2.out.upd hu)
      have HU4 : Hid (Upd [b] w W) := HU2.out.trans (hu.mono (by simp))
      have HL4 := Lib.hid (HL2.out.upd hu)
      have hb4 := HB2.out.upd hu (by simp)
      have q0 := hb4.cell 0
      have q1 := hb4.cell 1
      have q2 := hb4.cell 2
      have q3 := hb4.cell 3
      have q4 := hb4.cell 4
      simp at q0 q1 q2 q3 q4
      obtain ⟨vw4, vg4, hc4⟩ := HC4.out.cells_
      have g5 := hc4.cell 5
      have f5 := hc4.frozen 5
      have lt4 := hc4.lt
      simp [K.cells] at g5
      have hwl : w.heap.size < W.heap.size := hb4.lt
      clear hu h8 hb4 hc4 HB2 HC2 HU2 HL2
      go_wp2_with fail
      go_ret
      rw [HG.out]
      exact ⟨⟨_, [], rfl, SaysAt.nil _, HC4.out, HU4.out⟩⟩
  · have tb0 : (k.state == 0) = false := by simpa using t0
    have HNI : Hid (¬ (k.state = 0 ∧ d ≠ 1)) := by show ¬ _; simp [t0]
    clear t0
    by_cases tc : ck = 0
    · by_cases tk : kd = 14
      · have HG : Hid (k.take l = ({ k with state := 4 }, [])) := by
          show _ = _
          unfold K.take
          rw [← HKD.out, ← HD.out, ← HCK.out]
          rw [if_neg t4, if_neg HNI.out, if_neg (by simp [tc]), if_pos tk]
        have tkb : (kd == 14) = true := by simpa using tk
        have HT := Lib.hid tk
        clear tk t4
        go_enter Try.func11, Try.ntmps11
        go_wp2_with fail
        refine (none_any b k _ HCB.out).mono ?_
        rintro e w1 ⟨rfl, rfl⟩
        rw [hm]
        go_wp2_with fail
        refine (kind_any t s ns nr _ l _ HLB.out HS.out).mono ?_
        rintro e w2 ⟨rfl, hu2⟩
        have HC2 := Lib.hid (HCB.out.upd hu2)
        have HU2 : Hid (Upd [b] w w2) := (((Upd.refl [] w).alloc _).trans hu2).mono (by simp)
        have HL2 := Lib.hid (HLB.out.upd hu2)
        have HB2 : Hid (Blk w2 w.heap.size 33 #[.int .i64 t, .int .i64 s, .int .i64 ns, .int .i64 nr, (.slice ao nl cap)]) := (Blk.new w 33 _).upd hu2 (by simp)
        clear hu2 g5
        rw [← HKD.out]
        go_upto_region 4 with (fail)
        refine wp_region_chain [none, some (.int .i64 kd), some (.pointer (some ⟨b, 0, none⟩)), some (.pointer (some ⟨b, 0, none⟩)), some (.pointer (some ⟨b, 3, none⟩)), some (.bool k.out), some (.agg #[.int .i64 kd, .bool k.out]), none, none] [0,7,8] (stageA w2 (takeR (roleOf kd k.out))) [(0, 0), (0, 1), (0, 1), (0, 1), (0, 1), (0, 1), (0, 1), (1, 1), (2, 2)] (by kernel_rfl) (by kernel_rfl) (by kernel_rfl) (by kernel_rfl) (by kernel_rfl) (by kernel_rfl) (⟨(Upd.refl [] _).drew, trivial⟩) ?_ ?_
        · refine StepsC.cons ?_ (StepsC.cons ?_ (StepsC.cons ?_ (StepsC.cons ?_ (StepsC.cons ?_ (StepsC.cons ?_ (StepsC.cons ?_ (StepsC.cons ?_ (StepsC.cons ?_ StepsC.nil))))))))
          · refine chain_call (.inl rfl) ⟨_, rfl⟩ (by kernel_rfl) ?_
            intro a W kst l0 h0 A0 hF hD
            have k0 : kst = 0 := Nat.le_antisymm h0 l0
            subst k0
            clear l0 h0
            clear hF hD
            have hu := A0.1
            refine ⟨_, _, by (go_simp; first | done | rfl | exact ⟨rfl, rfl⟩), ?_⟩
            refine (roles_any _).mono ?_
            rintro e w3 ⟨rfl, ht, hu2⟩
            exact ⟨_, rfl, trivial, hu.trans hu2, _, rfl, ht⟩
          · refine chain_is _ (.inl rfl) ⟨_, rfl⟩ (by kernel_rfl) rfl ?_
            intro a W kst l0 h0 A0 hF hD
            have e5 : a.tmps[5]?.getD undef = _ := (ev a 5).symm.trans (hF 5 (by kernel_rfl))
            clear hF hD
            go_simp
          · refine chain_is _ (.inl rfl) ⟨_, rfl⟩ (by kernel_rfl) rfl ?_
            intro a W kst l0 h0 A0 hF hD
            have e0 : a.tmps[0]?.getD undef = _ := (ev a 0).symm.trans (hF 0 (by kernel_rfl))
            clear hF hD
            go_simp
          · refine chain_is _ (.inl rfl) ⟨_, rfl⟩ (by kernel_rfl) rfl ?_
            intro a W kst l0 h0 A0 hF hD
            have e20 : a.tmps[20]?.getD undef = .pointer (some ⟨b, 0, none⟩) := (ev a 20).symm.trans (hD _ (Array.mem_of_getElem? (i := 0) rfl) rfl)
            clear hF hD
            go_simp
          · refine chain_is _ (.inl rfl) ⟨_, rfl⟩ (by kernel_rfl) rfl ?_
            intro a W kst l0 h0 A0 hF hD
            have e21 : a.tmps[21]?.getD undef = .pointer (some ⟨b, 0, none⟩) := (ev a 21).symm.trans (hD _ (Array.mem_of_getElem? (i := 0) rfl) rfl)
            clear hF hD
            go_simp
          · refine chain_is _ (.inl rfl) ⟨_, rfl⟩ (by kernel_rfl) rfl ?_
            intro a W kst l0 h0 A0 hF hD
            have e22 : a.tmps[22]?.getD undef = .pointer (some ⟨b, 3, none⟩) := (ev a 22).symm.trans (hD _ (Array.mem_of_getElem? (i := 0) rfl) rfl)
            clear hF hD
            have hu := A0.1
            obtain ⟨vw2, vg2, hb2⟩ := (HC2.out.upd hu).cells_
            have g3 := hb2.cell 3
            simp [K.cells] at g3
            go_simp
          · refine chain_is _ (.inl rfl) ⟨_, rfl⟩ (by kernel_rfl) rfl ?_
            intro a W kst l0 h0 A0 hF hD
            have e19 : a.tmps[19]?.getD undef = .int .i64 kd := (ev a 19).symm.trans (hD _ (Array.mem_of_getElem? (i := 0) rfl) rfl)
            have e23 : a.tmps[23]?.getD undef = .bool k.out := (ev a 23).symm.trans (hD _ (Array.mem_of_getElem? (i := 1) rfl) rfl)
            clear hF hD
            go_simp
          · refine chain_run (.inl rfl) ⟨_, rfl⟩ (by kernel_rfl) ?_
            intro a W kst l0 h0 A0 hF hD
            have k0 : kst = 1 := Nat.le_antisymm h0 l0
            subst k0
            clear l0 h0
            have e24 : a.tmps[24]?.getD undef = .agg #[.int .i64 kd, .bool k.out] := (ev a 24).symm.trans (hD _ (Array.mem_of_getElem? (i := 1) rfl) rfl)
            clear hF hD
            obtain ⟨hu, g, hg, ht⟩ := A0
            have e18 : a.tmps[18]?.getD undef = _ := (ev a 18).symm.trans hg
            have hz : (zeroValue 3).run Try.prog W = .ok (.int .i64 0) W := by kernel_rfl
            have hl := (ht.look roleTabV_fun role_key Try.underlying62 hz (kd, k.out)).2
            rw [role_look] at hl
            simp only [encRole] at hl
            exact ⟨_, W, by (go_simp; first | done | rfl | exact ⟨rfl, rfl⟩), trivial, hu, rfl⟩
          · refine chain_run (.inl rfl) ⟨_, rfl⟩ (by kernel_rfl) ?_
            intro a W kst l0 h0 A0 hF hD
            have k0 : kst = 2 := Nat.le_antisymm h0 l0
            subst k0
            clear l0 h0
            clear hF hD
            obtain ⟨hu, h1⟩ := A0
            have e25 : a.tmps[25]?.getD undef = _ := (ev a 25).symm.trans h1
            exact ⟨_, W, by (go_simp; first | done | rfl | exact ⟨rfl, rfl⟩), trivial, hu, rfl⟩
        intro vals W hv hA
        have v1 : vals 1 = .int .i64 kd := hv 1 (by decide)
        have v2 : vals 2 = .pointer (some ⟨b, 0, none⟩) := hv 2 (by decide)
        have v3 : vals 3 = .pointer (some ⟨b, 0, none⟩) := hv 3 (by decide)
        have v4 : vals 4 = .pointer (some ⟨b, 3, none⟩) := hv 4 (by decide)
        have v5 : vals 5 = .bool k.out := hv 5 (by decide)
        have v6 : vals 6 = .agg #[.int .i64 kd, .bool k.out] := hv 6 (by decide)
        clear hv
        obtain ⟨hu, h8⟩ := hA
        have h8 : vals 8 = .int .i64 (roleOf kd k.out) := h8
        rw [← HD.out] at h8
        simp only [putAll, Act.put, Nat.zero_add, Nat.reduceAdd, h8, v1, v2, v3, v4, v5, v6, List.setIfInBounds_toArray, List.set_cons_zero, List.set_cons_succ]
        clear v1 v2 v3 v4 v5 v6
        have HC4 := Lib.hid (HC2.out.upd hu)
        have HU4 : Hid (Upd [b] w W) := HU2.out.trans (hu.mono (by simp))
        have HL4 := Lib.hid (HL2.out.upd hu)
        have hb4 := HB2.out.upd hu (by simp)
        have q0 := hb4.cell 0
        have q1 := hb4.cell 1
        have q2 := hb4.cell 2
        have q3 := hb4.cell 3
        have q4 := hb4.cell 4
        simp at q0 q1 q2 q3 q4
        obtain ⟨vw4, vg4, hc4⟩ := HC4.out.cells_
        have g5 := hc4.cell 5
        have f5 := hc4.frozen 5
        have lt4 := hc4.lt
        simp [K.cells] at g5
        have hwl : w.heap.size < W.heap.size := hb4.lt
        clear hu h8 hb4 hc4 HB2 HC2 HU2 HL2
        go_wp2_with fail
        refine (check_any t s ns nr _ l _ HL4.out HS.out).mono ?_
        rintro e w5 ⟨rfl, hu5⟩
        have HC5 := Lib.hid (HC4.out.upd hu5)
        have HU5 : Hid (Upd [b] w w5) := HU4.out.trans (hu5.mono (by simp))
        have HL5 := Lib.hid (HL4.out.upd hu5)
        obtain ⟨vw5, vg5, hc5⟩ := HC5.out.cells_
        have g5b := hc5.cell 5
        have f5b := hc5.frozen 5
        simp [K.cells] at g5b
        have Q := fun (i : Nat) => hu5.cell (p := ⟨w.heap.size, i, none⟩) hwl (by simp)
        have p0 := (Q 0).trans q0
        have p1 := (Q 1).trans q1
        have p2 := (Q 2).trans q2
        have p3 := (Q 3).trans q3
        have p4 := (Q 4).trans q4
        have hlt5 := hc5.lt
        clear Q q0 q1 q2 q3 q4 hu5 g5 f5 hc5 lt4 hwl
        rw [← HCK.out]
        rw [tc]
        have HKS := Lib.hid (HC5.out.set 5 (.int .i64 4) (k' := { k with state := 4 }) (fun _ _ => rfl) rfl rfl)
        go_wp2_with fail
        go_ret
        rw [HG.out]
        exact ⟨⟨_, [], rfl, SaysAt.nil _, HKS.out, HU5.out.setCell _ (.inl (by simp))⟩⟩
      · have HG : Hid (k.take l = k.handle kd d l) := by
          show _ = _
          unfold K.take
          rw [← HKD.out, ← HD.out, ← HCK.out]
          rw [if_neg t4, if_neg HNI.out, if_neg (by simp [tc]), if_neg tk]
        have tkb : (kd == 14) = false := by simpa using tk
        clear tk t4
        go_enter Try.func11, Try.ntmps11
        go_wp2_with fail
        refine (none_any b k _ HCB.out).mono ?_
        rintro e w1 ⟨rfl, rfl⟩
        rw [hm]
        go_wp2_with fail
        refine (kind_any t s ns nr _ l _ HLB.out HS.out).mono ?_
        rintro e w2 ⟨rfl, hu2⟩
        have HC2 := Lib.hid (HCB.out.upd hu2)
        have HU2 : Hid (Upd [b] w w2) := (((Upd.refl [] w).alloc _).trans hu2).mono (by simp)
        have HL2 := Lib.hid (HLB.out.upd hu2)
        have HB2 : Hid (Blk w2 w.heap.size 33 #[.int .i64 t, .int .i64 s, .int .i64 ns, .int .i64 nr, (.slice ao nl cap)]) := (Blk.new w 33 _).upd hu2 (by simp)
        clear hu2 g5
        rw [← HKD.out]
        go_upto_region 4 with (fail)
        refine wp_region_chain [none, some (.int .i64 kd), some (.pointer (some ⟨b, 0, none⟩)), some (.pointer (some ⟨b, 0, none⟩)), some (.pointer (some ⟨b, 3, none⟩)), some (.bool k.out), some (.agg #[.int .i64 kd, .bool k.out]), none, none] [0,7,8] (stageA w2 (takeR (roleOf kd k.out))) [(0, 0), (0, 1), (0, 1), (0, 1), (0, 1), (0, 1), (0, 1), (1, 1), (2, 2)] (by kernel_rfl) (by kernel_rfl) (by kernel_rfl) (by kernel_rfl) (by kernel_rfl) (by kernel_rfl) (⟨(Upd.refl [] _).drew, trivial⟩) ?_ ?_
        · refine StepsC.cons ?_ (StepsC.cons ?_ (StepsC.cons ?_ (StepsC.cons ?_ (StepsC.cons ?_ (StepsC.cons ?_ (StepsC.cons ?_ (StepsC.cons ?_ (StepsC.cons ?_ StepsC.nil))))))))
          · refine chain_call (.inl rfl) ⟨_, rfl⟩ (by kernel_rfl) ?_
            intro a W kst l0 h0 A0 hF hD
            have k0 : kst = 0 := Nat.le_antisymm h0 l0
            subst k0
            clear l0 h0
            clear hF hD
            have hu := A0.1
            refine ⟨_, _, by (go_simp; first | done | rfl | exact ⟨rfl, rfl⟩), ?_⟩
            refine (roles_any _).mono ?_
            rintro e w3 ⟨rfl, ht, hu2⟩
            exact ⟨_, rfl, trivial, hu.trans hu2, _, rfl, ht⟩
          · refine chain_is _ (.inl rfl) ⟨_, rfl⟩ (by kernel_rfl) rfl ?_
            intro a W kst l0 h0 A0 hF hD
            have e5 : a.tmps[5]?.getD undef = _ := (ev a 5).symm.trans (hF 5 (by kernel_rfl))
            clear hF hD
            go_simp
          · refine chain_is _ (.inl rfl) ⟨_, rfl⟩ (by kernel_rfl) rfl ?_
            intro a W kst l0 h0 A0 hF hD
            have e0 : a.tmps[0]?.getD undef = _ := (ev a 0).symm.trans (hF 0 (by kernel_rfl))
            clear hF hD
            go_simp
          · refine chain_is _ (.inl rfl) ⟨_, rfl⟩ (by kernel_rfl) rfl ?_
            intro a W kst l0 h0 A0 hF hD
            have e20 : a.tmps[20]?.getD undef = .pointer (some ⟨b, 0, none⟩) := (ev a 20).symm.trans (hD _ (Array.mem_of_getElem? (i := 0) rfl) rfl)
            clear hF hD
            go_simp
          · refine chain_is _ (.inl rfl) ⟨_, rfl⟩ (by kernel_rfl) rfl ?_
            intro a W kst l0 h0 A0 hF hD
            have e21 : a.tmps[21]?.getD undef = .pointer (some ⟨b, 0, none⟩) := (ev a 21).symm.trans (hD _ (Array.mem_of_getElem? (i := 0) rfl) rfl)
            clear hF hD
            go_simp
          · refine chain_is _ (.inl rfl) ⟨_, rfl⟩ (by kernel_rfl) rfl ?_
            intro a W kst l0 h0 A0 hF hD
            have e22 : a.tmps[22]?.getD undef = .pointer (some ⟨b, 3, none⟩) := (ev a 22).symm.trans (hD _ (Array.mem_of_getElem? (i := 0) rfl) rfl)
            clear hF hD
            have hu := A0.1
            obtain ⟨vw2, vg2, hb2⟩ := (HC2.out.upd hu).cells_
            have g3 := hb2.cell 3
            simp [K.cells] at g3
            go_simp
          · refine chain_is _ (.inl rfl) ⟨_, rfl⟩ (by kernel_rfl) rfl ?_
            intro a W kst l0 h0 A0 hF hD
            have e19 : a.tmps[19]?.getD undef = .int .i64 kd := (ev a 19).symm.trans (hD _ (Array.mem_of_getElem? (i := 0) rfl) rfl)
            have e23 : a.tmps[23]?.getD undef = .bool k.out := (ev a 23).symm.trans (hD _ (Array.mem_of_getElem? (i := 1) rfl) rfl)
            clear hF hD
            go_simp
          · refine chain_run (.inl rfl) ⟨_, rfl⟩ (by kernel_rfl) ?_
            intro a W kst l0 h0 A0 hF hD
            have k0 : kst = 1 := Nat.le_antisymm h0 l0
            subst k0
            clear l0 h0
            have e24 : a.tmps[24]?.getD undef = .agg #[.int .i64 kd, .bool k.out] := (ev a 24).symm.trans (hD _ (Array.mem_of_getElem? (i := 1) rfl) rfl)
            clear hF hD
            obtain ⟨hu, g, hg, ht⟩ := A0
            have e18 : a.tmps[18]?.getD undef = _ := (ev a 18).symm.trans hg
            have hz : (zeroValue 3).run Try.prog W = .ok (.int .i64 0) W := by kernel_rfl
            have hl := (ht.look roleTabV_fun role_key Try.underlying62 hz (kd, k.out)).2
            rw [role_look] at hl
            simp only [encRole] at hl
            exact ⟨_, W, by (go_simp; first | done | rfl | exact ⟨rfl, rfl⟩), trivial, hu, rfl⟩
          · refine chain_run (.inl rfl) ⟨_, rfl⟩ (by kernel_rfl) ?_
            intro a W kst l0 h0 A0 hF hD
            have k0 : kst = 2 := Nat.le_antisymm h0 l0
            subst k0
            clear l0 h0
            clear hF hD
            obtain ⟨hu, h1⟩ := A0
            have e25 : a.tmps[25]?.getD undef = _ := (ev a 25).symm.trans h1
            exact ⟨_, W, by (go_simp; first | done | rfl | exact ⟨rfl, rfl⟩), trivial, hu, rfl⟩
        intro vals W hv hA
        have v1 : vals 1 = .int .i64 kd := hv 1 (by decide)
        have v2 : vals 2 = .pointer (some ⟨b, 0, none⟩) := hv 2 (by decide)
        have v3 : vals 3 = .pointer (some ⟨b, 0, none⟩) := hv 3 (by decide)
        have v4 : vals 4 = .pointer (some ⟨b, 3, none⟩) := hv 4 (by decide)
        have v5 : vals 5 = .bool k.out := hv 5 (by decide)
        have v6 : vals 6 = .agg #[.int .i64 kd, .bool k.out] := hv 6 (by decide)
        clear hv
        obtain ⟨hu, h8⟩ := hA
        have h8 : vals 8 = .int .i64 (roleOf kd k.out) := h8
        rw [← HD.out] at h8
        simp only [putAll, Act.put, Nat.zero_add, Nat.reduceAdd, h8, v1, v2, v3, v4, v5, v6, List.setIfInBounds_toArray, List.set_cons_zero, List.set_cons_succ]
        clear v1 v2 v3 v4 v5 v6
        have HC4 := Lib.hid (HC2.out.upd hu)
        have HU4 : Hid (Upd [b] w W) := HU2.out.trans (hu.mono (by simp))
        have HL4 := Lib.hid (HL2.out.upd hu)
        have hb4 := HB2.out.upd hu (by simp)
        have q0 := hb4.cell 0
        have q1 := hb4.cell 1
        have q2 := hb4.cell 2
        have q3 := hb4.cell 3
        have q4 := hb4.cell 4
        simp at q0 q1 q2 q3 q4
        obtain ⟨vw4, vg4, hc4⟩ := HC4.out.cells_
        have g5 := hc4.cell 5
        have f5 := hc4.frozen 5
        have lt4 := hc4.lt
        simp [K.cells] at g5
        have hwl : w.heap.size < W.heap.size := hb4.lt
        clear hu h8 hb4 hc4 HB2 HC2 HU2 HL2
        go_wp2_with fail
        refine (check_any t s ns nr _ l _ HL4.out HS.out).mono ?_
        rintro e w5 ⟨rfl, hu5⟩
        have HC5 := Lib.hid (HC4.out.upd hu5)
        have HU5 : Hid (Upd [b] w w5) := HU4.out.trans (hu5.mono (by simp))
        have HL5 := Lib.hid (HL4.out.upd hu5)
        obtain ⟨vw5, vg5, hc5⟩ := HC5.out.cells_
        have g5b := hc5.cell 5
        have f5b := hc5.frozen 5
        simp [K.cells] at g5b
        have Q := fun (i : Nat) => hu5.cell (p := ⟨w.heap.size, i, none⟩) hwl (by simp)
        have p0 := (Q 0).trans q0
        have p1 := (Q 1).trans q1
        have p2 := (Q 2).trans q2
        have p3 := (Q 3).trans q3
        have p4 := (Q 4).trans q4
        have hlt5 := hc5.lt
        clear Q q0 q1 q2 q3 q4 hu5 g5 f5 hc5 lt4 hwl
        rw [← HCK.out]
        rw [tc]
        go_wp2_with fail
        refine (handle_any b k l kd d t s ns nr _ _ HC5.out HL5.out HS.out HOK.out hlen (fun W2 hw => HFAR.out _ (HU5.out.trans hw))).mono ?_
        rintro e w6 ⟨v6, own6, rfl, h1, h2, h3⟩
        have HX := Lib.hid (And.intro h1 (And.intro h2 (HU5.out.trans h3)))
        clear h1 h2 h3 g5b f5b p0 p1 p2 p3 p4
        go_wp2_with fail
        go_ret
        rw [HG.out]
        exact ⟨⟨_, own6, rfl, HX.out⟩⟩
    · have HG : Hid (k.take l = k.fin 2) := by
        show _ = _
        unfold K.take
        rw [← HKD.out, ← HD.out, ← HCK.out]
        rw [if_neg t4, if_neg HNI.out, if_pos tc]
      have tcb : (ck != 0) = true := by simpa using tc
      clear t4
      go_enter Try.func11, Try.ntmps11
      go_wp2_with fail
      refine (none_any b k _ HCB.out).mono ?_
      rintro e w1 ⟨rfl, rfl⟩
      rw [hm]
      go_wp2_with fail
      refine (kind_any t s ns nr _ l _ HLB.out HS.out).mono ?_
      rintro e w2 ⟨rfl, hu2⟩
      have HC2 := Lib.hid (HCB.out.upd hu2)
      have HU2 : Hid (Upd [b] w w2) := (((Upd.refl [] w).alloc _).trans hu2).mono (by simp)
      have HL2 := Lib.hid (HLB.out.upd hu2)
      have HB2 : Hid (Blk w2 w.heap.size 33 #[.int .i64 t, .int .i64 s, .int .i64 ns, .int .i64 nr, (.slice ao nl cap)]) := (Blk.new w 33 _).upd hu2 (by simp)
      clear hu2 g5
      rw [← HKD.out]
      go_upto_region 4 with (fail)
      refine wp_region_chain [none, some (.int .i64 kd), some (.pointer (some ⟨b, 0, none⟩)), some (.pointer (some ⟨b, 0, none⟩)), some (.pointer (some ⟨b, 3, none⟩)), some (.bool k.out), some (.agg #[.int .i64 kd, .bool k.out]), none, none] [0,7,8] (stageA w2 (takeR (roleOf kd k.out))) [(0, 0), (0, 1), (0, 1), (0, 1), (0, 1), (0, 1), (0, 1), (1, 1), (2, 2)] (by kernel_rfl) (by kernel_rfl) (by kernel_rfl) (by kernel_rfl) (by kernel_rfl) (by kernel_rfl) (⟨(Upd.refl [] _).drew, trivial⟩) ?_ ?_
      · refine StepsC.cons ?_ (StepsC.cons ?_ (StepsC.cons ?_ (StepsC.cons ?_ (StepsC.cons ?_ (StepsC.cons ?_ (StepsC.cons ?_ (StepsC.cons ?_ (StepsC.cons ?_ StepsC.nil))))))))
        · refine chain_call (.inl rfl) ⟨_, rfl⟩ (by kernel_rfl) ?_
          intro a W kst l0 h0 A0 hF hD
          have k0 : kst = 0 := Nat.le_antisymm h0 l0
          subst k0
          clear l0 h0
          clear hF hD
          have hu := A0.1
          refine ⟨_, _, by (go_simp; first | done | rfl | exact ⟨rfl, rfl⟩), ?_⟩
          refine (roles_any _).mono ?_
          rintro e w3 ⟨rfl, ht, hu2⟩
          exact ⟨_, rfl, trivial, hu.trans hu2, _, rfl, ht⟩
        · refine chain_is _ (.inl rfl) ⟨_, rfl⟩ (by kernel_rfl) rfl ?_
          intro a W kst l0 h0 A0 hF hD
          have e5 : a.tmps[5]?.getD undef = _ := (ev a 5).symm.trans (hF 5 (by kernel_rfl))
          clear hF hD
          go_simp
        · refine chain_is _ (.inl rfl) ⟨_, rfl⟩ (by kernel_rfl) rfl ?_
          intro a W kst l0 h0 A0 hF hD
          have e0 : a.tmps[0]?.getD undef = _ := (ev a 0).symm.trans (hF 0 (by kernel_rfl))
          clear hF hD
          go_simp
        · refine chain_is _ (.inl rfl) ⟨_, rfl⟩ (by kernel_rfl) rfl ?_
          intro a W kst l0 h0 A0 hF hD
          have e20 : a.tmps[20]?.getD undef = .pointer (some ⟨b, 0, none⟩) := (ev a 20).symm.trans (hD _ (Array.mem_of_getElem? (i := 0) rfl) rfl)
          clear hF hD
          go_simp
        · refine chain_is _ (.inl rfl) ⟨_, rfl⟩ (by kernel_rfl) rfl ?_
          intro a W kst l0 h0 A0 hF hD
          have e21 : a.tmps[21]?.getD undef = .pointer (some ⟨b, 0, none⟩) := (ev a 21).symm.trans (hD _ (Array.mem_of_getElem? (i := 0) rfl) rfl)
          clear hF hD
          go_simp
        · refine chain_is _ (.inl rfl) ⟨_, rfl⟩ (by kernel_rfl) rfl ?_
          intro a W kst l0 h0 A0 hF hD
          have e22 : a.tmps[22]?.getD undef = .pointer (some ⟨b, 3, none⟩) := (ev a 22).symm.trans (hD _ (Array.mem_of_getElem? (i := 0) rfl) rfl)
          clear hF hD
          have hu := A0.1
          obtain ⟨vw2, vg2, hb2⟩ := (HC2.out.upd hu).cells_
          have g3 := hb2.cell 3
          simp [K.cells] at g3
          go_simp
        · refine chain_is _ (.inl rfl) ⟨_, rfl⟩ (by kernel_rfl) rfl ?_
          intro a W kst l0 h0 A0 hF hD
          have e19 : a.tmps[19]?.getD undef = .int .i64 kd := (ev a 19).symm.trans (hD _ (Array.mem_of_getElem? (i := 0) rfl) rfl)
          have e23 : a.tmps[23]?.getD undef = .bool k.out := (ev a 23).symm.trans (hD _ (Array.mem_of_getElem? (i := 1) rfl) rfl)
          clear hF hD
          go_simp
        · refine chain_run (.inl rfl) ⟨_, rfl⟩ (by kernel_rfl) ?_
          intro a W kst l0 h0 A0 hF hD
          have k0 : kst = 1 := Nat.le_antisymm h0 l0
          subst k0
          clear l0 h0
          have e24 : a.tmps[24]?.getD undef = .agg #[.int .i64 kd, .bool k.out] := (ev a 24).symm.trans (hD _ (Array.mem_of_getElem? (i := 1) rfl) rfl)
          clear hF hD
          obtain ⟨hu, g, hg, ht⟩ := A0
          have e18 : a.tmps[18]?.getD undef = _ := (ev a 18).symm.trans hg
          have hz : (zeroValue 3).run Try.prog W = .ok (.int .i64 0) W := by kernel_rfl
          have hl := (ht.look roleTabV_fun role_key Try.underlying62 hz (kd, k.out)).2
          rw [role_look] at hl
          simp only [encRole] at hl
          exact ⟨_, W, by (go_simp; first | done | rfl | exact ⟨rfl, rfl⟩), trivial, hu, rfl⟩
        · refine chain_run (.inl rfl) ⟨_, rfl⟩ (by kernel_rfl) ?_
          intro a W kst l0 h0 A0 hF hD
          have k0 : kst = 2 := Nat.le_antisymm h0 l0
          subst k0
          clear l0 h0
          clear hF hD
          obtain ⟨hu, h1⟩ := A0
          have e25 : a.tmps[25]?.getD undef = _ := (ev a 25).symm.trans h1
          exact ⟨_, W, by (go_simp; first | done | rfl | exact ⟨rfl, rfl⟩), trivial, hu, rfl⟩
      intro vals W hv hA
      have v1 : vals 1 = .int .i64 kd := hv 1 (by decide)
      have v2 : vals 2 = .pointer (some ⟨b, 0, none⟩) := hv 2 (by decide)
      have v3 : vals 3 = .pointer (some ⟨b, 0, none⟩) := hv 3 (by decide)
      have v4 : vals 4 = .pointer (some ⟨b, 3, none⟩) := hv 4 (by decide)
      have v5 : vals 5 = .bool k.out := hv 5 (by decide)
      have v6 : vals 6 = .agg #[.int .i64 kd, .bool k.out] := hv 6 (by decide)
      clear hv
      obtain ⟨hu, h8⟩ := hA
      have h8 : vals 8 = .int .i64 (roleOf kd k.out) := h8
      rw [← HD.out] at h8
      simp only [putAll, Act.put, Nat.zero_add, Nat.reduceAdd, h8, v1, v2, v3, v4, v5, v6, List.setIfInBounds_toArray, List.set_cons_zero, List.set_cons_succ]
      clear v1 v2 v3 v4 v5 v6
      have HC4 := Lib.hid (HC2.out.upd hu)
      have HU4 : Hid (Upd [b] w W) := HU2.out.trans (hu.mono (by simp))
      have HL4 := Lib.hid (HL2.out.upd hu)
      have hb4 := HB2.out.upd hu (by simp)
      have q0 := hb4.cell 0
      have q1 := hb4.cell 1
      have q2 := hb4.cell 2
      have q3 := hb4.cell 3
      have q4 := hb4.cell 4
      simp at q0 q1 q2 q3 q4
      obtain ⟨vw4, vg4, hc4⟩ := HC4.out.cells_
      have g5 := hc4.cell 5
      have f5 := hc4.frozen 5
      have lt4 := hc4.lt
      simp [K.cells] at g5
      have hwl : w.heap.size < W.heap.size := hb4.lt
      clear hu h8 hb4 hc4 HB2 HC2 HU2 HL2
      go_wp2_with fail
      refine (check_any t s ns nr _ l _ HL4.out HS.out).mono ?_
      rintro e w5 ⟨rfl, hu5⟩
      have HC5 := Lib.hid (HC4.out.upd hu5)
      have HU5 : Hid (Upd [b] w w5) := HU4.out.trans (hu5.mono (by simp))
      have HL5 := Lib.hid (HL4.out.upd hu5)
      obtain ⟨vw5, vg5, hc5⟩ := HC5.out.cells_
      have g5b := hc5.cell 5
      have f5b := hc5.frozen 5
      simp [K.cells] at g5b
      have Q := fun (i : Nat) => hu5.cell (p := ⟨w.heap.size, i, none⟩) hwl (by simp)
      have p0 := (Q 0).trans q0
      have p1 := (Q 1).trans q1
      have p2 := (Q 2).trans q2
      have p3 := (Q 3).trans q3
      have p4 := (Q 4).trans q4
      have hlt5 := hc5.lt
      clear Q q0 q1 q2 q3 q4 hu5 g5 f5 hc5 lt4 hwl
      rw [← HCK.out]
      go_wp2_with fail
      refine (end_any b k 2 _ HC5.out).mono ?_
      rintro e w6 ⟨v6, own6, rfl, h1, h2, h3⟩
      have HX := Lib.hid (And.intro h1 (And.intro h2 (HU5.out.trans h3)))
      clear h1 h2 h3 g5b f5b p0 p1 p2 p3 p4
      go_wp2_with fail
      go_ret
      rw [HG.out]
      exact ⟨⟨_, own6, rfl, HX.out⟩⟩
end Go.Proofs.Ytihedbaomingpaa
