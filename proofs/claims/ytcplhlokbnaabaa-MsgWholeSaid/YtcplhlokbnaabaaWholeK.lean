/- The walk of MsgWhole at a known kind -/
import Derived.Test.YtcplhlokbnaabaaWhole
import Derived.Test.YtcplhlokbnaabaaCuts
import Derived.Test.YtcplhlokbnaabaaRes
import Derived.Test.YtcplhlokbnaabaaFacts
import Derived.Deep.DeepCutAuto
namespace Go.Proofs.Ytcplhlokbnaabaa
open Go.RowKit
set_option maxRecDepth 100000
set_option linter.unusedSimpArgs false
set_option linter.unusedVariables false

theorem wholeB_parts {K : Int} {ns : List Int} (h : wholeB K ns = true) : (∀ k ∈ ns, avpLen k ≠ -2 ∧ avpLen k ≤ 16) ∧ checkOf (numAv 0 K 2 :: ns.map mkAv) = 0 ∧ (∀ d, d < ns.length → checkOf (numAv 0 K 2 :: dropAt (ns.map mkAv) d) = 40) ∧
    checkOf (numAv 0 K 2 :: (ns.map mkAv ++ [⟨false, false, 9, 1, ⟨#[]⟩⟩])) = 0 ∧ checkOf (numAv 0 K 2 :: (ns.map mkAv ++ [⟨true, false, 9, 1, ⟨#[]⟩⟩])) = 40 ∧ ns.length ≤ 4 := by
  simp only [wholeB, Bool.and_eq_true, decide_eq_true_eq, List.all_eq_true, List.mem_range] at h
  obtain ⟨⟨⟨⟨⟨h1, h2⟩, h3⟩, h4⟩, h5⟩, h6⟩ := h
  exact ⟨h1, h2, h3, h4, h5, h6⟩

/-- The message without one value, and the look over it: stage by stage. -/
def wholeA (w0 : World) (L : List Av) (kind : Int) (d : Nat) (vs : List Value) (w : World) : Prop := match vs with
  | [] => Upd [] w0 w
  | [v] => Upd [] w0 w ∧ ∃ own, Own w 27 5 v (L.take d).length (avCells (L.take d)) own ∧ ∀ k ∈ own, w0.heap.size ≤ k
  | [_, u] => Upd [] w0 w ∧ AvsAt w u (dropAt L d)
  | [_, _, m] => Upd [] w0 w ∧ AvsAt w m (numAv 0 kind 2 :: dropAt L d)
  | [_, _, _, g] => Upd [] w0 w ∧ ∃ m, g = .agg #[.int .i64 0, .int .i64 0, .int .i64 0, .int .i64 0, m] ∧ AvsAt w m (numAv 0 kind 2 :: dropAt L d)
  | [_, _, _, _, e] => Upd [] w0 w ∧ e = .int .i64 (checkOf (numAv 0 kind 2 :: dropAt L d))
  | [_, _, _, _, _, e] => Upd [] w0 w ∧ e = .int .i64 (checkOf (numAv 0 kind 2 :: dropAt L d))
  | _ => False
theorem avCells_take (l : List Av) : ∀ k, avCells (l.take k) = (avCells l).take (k * 5) := by
  induction l with
  | nil => intro k; simp [avCells]
  | cons x l ih =>
    intro k
    cases k with
    | zero => simp [avCells]
    | succ k =>
      have h := ih k
      simp only [avCells] at h
      rw [List.take_succ_cons, avCells, List.flatMap_cons, h, avCells, List.flatMap_cons, show (k + 1) * 5 = k * 5 + 5 by omega]
      rfl
theorem avCells_drop (l : List Av) : ∀ k, avCells (l.drop k) = (avCells l).drop (k * 5) := by
  induction l with
  | nil => intro k; simp [avCells]
  | cons x l ih =>
    intro k
    cases k with
    | zero => simp [avCells]
    | succ k =>
      have h := ih k
      simp only [avCells] at h
      rw [List.drop_succ_cons, avCells, h, avCells, List.flatMap_cons, show (k + 1) * 5 = k * 5 + 5 by omega]
      rfl
theorem size_avp (W : World) : (sizeOf (Try.prog.elem 25)).run Try.prog W = .ok 5 W := by kernel_rfl

set_option maxHeartbeats 4000000 in
theorem msgWhole_some (kind drop : Int) (ns : List Int) (hn : needsOf kind = some ns) (w : World) :
    Calls Try.prog 3 #[.int .i64 kind, .int .i64 drop] w fun e w' => e = .returned (.bool true) ∧ Upd [] w w' := by
  obtain ⟨i0, hi, hz0, hz1, hz2⟩ := info_parts info_avp
  have HP := Lib.hid (wholeB_parts (whole_ok hn))
  have hkn := needsOf_known kind
  rw [hn] at hkn
  have hkn : 1 ≤ kind ∧ kind ≤ 16 ∧ kind ≠ 5 ∧ kind ≠ 13 := by simpa using hkn.symm
  have HNS : Hid (∀ W : World, Calls Try.prog 8 #[.int .i64 kind] W fun e w' => ∃ v, e = .returned v ∧ IntsAt w' v ns ∧ Upd [] W w') := by
    intro W
    have := needs_any kind W
    rwa [hn] at this
  obtain ⟨h0, h1, h5, h13⟩ := hkn
  obtain ⟨j, hj⟩ : ∃ j, j = ns.length := ⟨_, rfl⟩
  have HJ := Lib.hid hj
  have hj4 : j ≤ 4 := by rw [hj]; exact HP.out.2.2.2.2.2
  clear hn hj
  go_enter Try.func3, Try.ntmps3
  go_wp2_with fail
  refine (HNS.out _).mono ?_
  rintro e w1 ⟨vn, rfl, hin, hu1⟩
  obtain ⟨bo, cbp, rfl, i1, i2, -⟩ := id hin
  have HU1 := Lib.hid hu1
  rw [← HJ.out] at i1 hin
  simp only [← HJ.out]
  have HIN := Lib.hid hin
  simp only [maxLen] at i2
  clear hu1 hin
  go_wp2_with fail
  go_loopg [6, 7] j (fun m s6 s7 wr => ∃ (k : Nat) (own : List Nat), k + m = j ∧ s7 = .int .i64 k ∧ Own wr 27 5 s6 k (avCells ((ns.take k).map mkAv)) own ∧ (∀ g, g ∈ own → w1.heap.size ≤ g) ∧ Upd [] w1 wr)
  case atStart => exact ⟨0, [], by omega, rfl, by simpa [avCells] using Own.nil _ _ _, by simp, Upd.refl _ _⟩
  case round =>
    obtain ⟨k, own, hk, rfl, ho, hfr, hu⟩ := hrel
    obtain ⟨ao, cap, rfl, hc1, hc2⟩ := ho.shape
    simp only [maxLen] at hc2
    have HO := Lib.hid ho
    have HFR := Lib.hid hfr
    have HU := Lib.hid hu
    clear ho hfr hu
    by_cases t : k < j
    · obtain ⟨x, hx⟩ : ∃ x, ns[k]? = some x := by
        have := HJ.out
        exact ⟨_, List.getElem?_eq_getElem (by omega)⟩
      have hpx := HP.out.1 x (List.mem_of_getElem? hx)
      obtain ⟨ao', cap', e0, -, -, h3⟩ := HIN.out.upd HU.out
      injection e0 with e0 e1 e2
      clear e1
      subst e0 e2
      obtain ⟨q, rfl, c0⟩ := h3 k x hx
      have c0' : ∀ W, Upd [] wr W → W.cell? (q.add k) = some (.int .i64 x) := fun W hu => (hu.cell (cell_lt' c0) (by simp)).trans c0
      have HC := Lib.hid c0'
      have HX := Lib.hid hx
      clear h3 hx c0'
      obtain ⟨z, hz⟩ : ∃ z, z = avpLen x := ⟨_, rfl⟩
      have hlen := fun W => length_any x W
      rw [← hz] at hpx hlen
      have HLEN := Lib.hid hlen
      have HZ := Lib.hid hz
      clear hlen hz
      obtain ⟨hz2', hz16⟩ := hpx
      have r1 := HC.out _ ((Upd.refl [] wr).alloc (.cells #[.bool true, .bool false, .int .i64 0, .int .i64 x, .string ⟨#[]⟩] 27))
      go_wp2_with fail
      refine (HLEN.out _).mono ?_
      rintro e w2 ⟨rfl, hu2⟩
      have B0 := (Blk.new wr 27 #[.bool true, .bool false, .int .i64 0, .int .i64 x, .string ⟨#[]⟩]).upd hu2 (by simp)
      have UA : Upd [] wr w2 := ((Upd.refl [] wr).alloc _).trans hu2
      have HB0 := Lib.hid B0
      have HUA := Lib.hid UA
      clear B0 UA hu2 r1
      go_wp2_with fail
      go_loopg [] z.toNat (fun m wr2 => ∃ y : Nat, y + m = z.toNat ∧ Blk wr2 wr.heap.size 27 #[.bool true, .bool false, .int .i64 0, .int .i64 x, .string (xs y)] ∧ Upd [] wr wr2)
      case atStart => exact ⟨0, by omega, HB0.out, HUA.out⟩
      case round =>
        obtain ⟨y, hy, hb, hu3⟩ := hrel
        have HX2 := Lib.hid (xs_succ y)
        have hS := xs_size y
        generalize hSS : xs y = S at *
        have HSS := Lib.hid hSS
        clear hSS
        have s4 := hb.cell 4
        have f4 := hb.frozen 4
        simp at s4
        have HB := Lib.hid hb
        have HU3 := Lib.hid hu3
        clear hb hu3
        by_cases t3 : (y : Int) < z
        · go_wp2_with fail
          go_roundg (z.toNat - (y + 1))
          case rel =>
            refine ⟨y + 1, by omega, ?_, HU3.out.setCell _ (.inr (Nat.le_refl _))⟩
            rw [← HX2.out]
            exact HB.out.set_ 4 _
          case measure => omega
        · have s0 := HB.out.cell 0
          have s1 := HB.out.cell 1
          have s2 := HB.out.cell 2
          have s3 := HB.out.cell 3
          simp at s0 s1 s2 s3
          have HM : Hid ((⟨true, false, 0, x, S⟩ : Av) = mkAv x) := by
            show _ = _
            have hyz : y = z.toNat := by omega
            rw [mkAv, ← HZ.out, ← hyz, HSS.out]
          have HO2 := Lib.hid ((HO.out.upd HU3.out (by simp)).alloc (.cells #[.bool true, .bool false, .int .i64 0, .int .i64 x, .string S] 27))
          have HR : Hid (Rd (wr.alloc (.cells #[.bool true, .bool false, .int .i64 0, .int .i64 x, .string S] 27)) 5 (.slice (some ⟨wr.heap.size, 0, none⟩) 1 1) 1 (avCells [⟨true, false, 0, x, S⟩])) :=
            (AvsAt.of_blk (l := [⟨true, false, 0, x, S⟩]) (Blk.new wr 27 _) (by simp [maxLen])).rd
          go_wp2_with (first
            | (at_builtin; refine wpList_append_Rd _ rfl (.tmp 51) (.tmp 53) 25 rfl 27 i0 _ 5 40 Try.underlying25 hi hz0 hz1 hz2 rfl (by decide) _ k _ _ (by simp [Act.eval]) HO2.out _ 1 _ (by simp [Act.eval]) HR.out (by simp only [maxLen]; omega) (by omega) ?_; intro ao1 cap1 w5 own1 ho1 hin1 hu5; have HO1 := Lib.hid ho1; have HIN1 := Lib.hid hin1; have HU5 := Lib.hid hu5; clear ho1 hin1 hu5; generalize Value.slice ao1 (k + 1) cap1 = v5 at *))
          go_roundg (j - (k + 1))
          case rel =>
            refine ⟨k + 1, own1, by omega, by go_num, ?_, ?_, ?_⟩
            · have h := HO1.out
              rw [HM.out] at h
              rw [List.take_add_one, HX.out, List.map_append, avCells_append]
              exact h
            · intro g hg
              have h1 := HU.out.size
              have h2 := HU3.out.size
              rcases HIN1.out g hg with h | h
              · exact HFR.out g h
              · simp at h; omega
            · refine ((HU.out.trans HU3.out).alloc _).trans' HU5.out (fun y hy => .inr ?_)
              exact HFR.out y hy
          case measure => omega
    · obtain rfl : k = j := by omega
      have HA : Hid (AvsAt wr (.slice ao k cap) (ns.map mkAv)) := by
        have h := HO.out
        rw [List.take_of_length_le (by rw [← HJ.out]; exact Nat.le_refl _)] at h
        have hl : k = (ns.map mkAv).length := by rw [List.length_map]; exact HJ.out
        show AvsAt _ _ _
        have h2 : Own wr 27 5 (.slice ao k cap) (ns.map mkAv).length (avCells (ns.map mkAv)) own := by rw [← hl]; exact h
        exact AvsAt.of_own h2
      have HLN : Hid ((ns.map mkAv).length = k) := by show _ = _; rw [List.length_map]; exact HJ.out.symm
      have Z : Hid (∀ a ∈ numAv 0 kind 2 :: ns.map mkAv, a.val.size ≤ maxLen) := by
        intro a ha
        rcases List.mem_cons.1 ha with rfl | ha
        · simp [numAv, be_size, maxLen]
        · obtain ⟨y, hy, rfl⟩ := List.mem_map.1 ha
          have := (HP.out.1 y hy).2
          simp only [mkAv, xs_size, maxLen]
          omega
      obtain ⟨L, hL⟩ : ∃ L, L = ns.map mkAv := ⟨_, rfl⟩
      have HK : Hid (∀ d, d < k → checkOf (numAv 0 kind 2 :: dropAt L d) = 40) := by rw [hL]; intro d hd; exact HP.out.2.2.1 d (by have := HJ.out; omega)
      have HG : Hid (checkOf (numAv 0 kind 2 :: (L ++ [⟨false, false, 9, 1, ⟨#[]⟩⟩])) = 0 ∧ checkOf (numAv 0 kind 2 :: (L ++ [⟨true, false, 9, 1, ⟨#[]⟩⟩])) = 40) := by rw [hL]; exact ⟨HP.out.2.2.2.1, HP.out.2.2.2.2.1⟩
      have HC0 : Hid (checkOf (numAv 0 kind 2 :: L) = 0) := by rw [hL]; exact HP.out.2.1
      rw [← hL] at HA Z HLN
      clear hL
      have Z2 : Hid (∀ d, ∀ a ∈ numAv 0 kind 2 :: dropAt L d, a.val.size ≤ maxLen) := by
        intro d a ha
        refine Z.out a ?_
        rcases List.mem_cons.1 ha with rfl | ha
        · simp
        · rcases List.mem_append.1 ha with ha | ha
          · exact List.mem_cons_of_mem _ (List.mem_of_mem_take ha)
          · exact List.mem_cons_of_mem _ (List.mem_of_mem_drop ha)
      have hbk : (kind != 5 && kind != 13) = true := by simp; exact ⟨h5, h13⟩
      clear HO
      go_wp2_with fail
      refine (make_any kind L _ _ HA.out (by rw [HLN.out]; omega)).mono ?_
      rintro e w2 ⟨u1, own1, rfl, ho1, -, hu2⟩
      have HU2 := Lib.hid (HU.out.trans hu2)
      have HM1 := Lib.hid (make_avs ho1)
      rw [show 1 + L.length = k + 1 by rw [HLN.out]; omega] at ho1
      obtain ⟨ao1, cap1, rfl, -, -⟩ := ho1.shape
      have HA2 := Lib.hid (HA.out.upd hu2)
      clear hu2 ho1 HA
      go_wp2_with fail
      refine (check_any 0 0 0 0 _ _ _ HM1.out Z.out).mono ?_
      rintro e w3 ⟨rfl, hu3⟩
      have HU3 := Lib.hid (HU2.out.trans hu3)
      have HA3 := Lib.hid (HA2.out.upd hu3)
      clear hu3 HA2 HM1
      rw [HC0.out]
      by_cases hk0 : k = 0
      · subst hk0
        go_wp2_with fail
        refine (alive_any _).mono ?_
        rintro e w4 ⟨rfl, hu4⟩
        go_wp2_with fail
        go_ret
        exact ⟨rfl, HU1.out.trans (HU3.out.trans hu4)⟩
      · obtain ⟨wc0, hwc⟩ : ∃ x, x = w3 := ⟨_, rfl⟩
        rw [← hwc] at HU3 HA3
        rw [← hwc]
        clear hwc
        go_upto_if 97 with (fail)
        obtain ⟨t, ht, ht1, ht2⟩ : ∃ t : Int, drop.tmod (k : Int) = t ∧ -(k : Int) < t ∧ t < k := by
          have h1 := Int.natAbs_tmod drop (k : Int)
          have h2 : drop.natAbs % (k : Int).natAbs < (k : Int).natAbs := Nat.mod_lt _ (by omega)
          exact ⟨_, rfl, by omega, by omega⟩
        rw [ht]
        clear ht
        go_cut [1] (fun s1 V => ∃ d : Nat, d < k ∧ s1 = .int .i64 d ∧ V = wc0)
        case first =>
          by_cases t0 : t < 0
          · go_wp2_with fail
            go_meet
            case rel => exact ⟨(t + k).toNat, by omega, by rw [Int.toNat_of_nonneg (by omega)], rfl⟩
          · go_wp2_with fail
            go_meet
            case rel => exact ⟨t.toNat, by omega, by rw [Int.toNat_of_nonneg (by omega)], rfl⟩
        case rest =>
        obtain ⟨d, hd, rfl, rfl⟩ := hcut
        go_upto_region 26 with (fail)
        have hsl := run_prefix (P := Try.prog) 25 Try.underlying25 5 size_avp ao k cap d (by omega)
        obtain ⟨vT, hvT⟩ : ∃ v, v = sliced ao (d + 1) k cap 5 := ⟨_, rfl⟩
        have hss := run_suffix (P := Try.prog) 25 Try.underlying25 5 size_avp ao k cap (d + 1) (by omega) vT hvT
        rw [show (((d + 1 : Nat) : Int)) = (d : Int) + 1 by omega] at hss
        have HVT := Lib.hid hvT
        have hw7 : IntKind.i64.wrap ((d : Int) + 1) = (d : Int) + 1 := IntWalk.i64_in _ (by omega)
        have HRD : Hid (Rd wc 5 (.slice ao k cap) k (avCells L)) := by have h := HA3.out.rd; rw [HLN.out] at h; exact h
        have HDL : Hid (∀ d, d < k → (dropAt L d).length ≤ 4) := by intro d hd; have := HLN.out; show (L.take d ++ L.drop (d + 1)).length ≤ 4; rw [List.length_append, List.length_take, List.length_drop]; omega
        clear hvT
        refine wp_region_chain [some (.int .i64 kind), some (.slice ao k cap), some (.int .i64 d), some (.slice ao d cap), none, some (.slice ao k cap), some (.int .i64 d), some (.int .i64 ((d : Int) + 1)), some (vT), none, none, none, none, none] [4,9,10,11,12,13] (wholeA wc L kind d) [(0, 2), (0, 0), (0, 0), (0, 0), (0, 0), (0, 1), (0, 1), (0, 1), (0, 1), (1, 1), (2, 2), (3, 3), (4, 4), (5, 5)] (by kernel_rfl) (by kernel_rfl) (by kernel_rfl) (by kernel_rfl) (by kernel_rfl) (by kernel_rfl) ((Upd.refl [] wc).drew) ?_ ?_
        · refine StepsC.cons ?_ (StepsC.cons ?_ (StepsC.cons ?_ (StepsC.cons ?_ (StepsC.cons ?_ (StepsC.cons ?_ (StepsC.cons ?_ (StepsC.cons ?_ (StepsC.cons ?_ (StepsC.cons ?_ (StepsC.cons ?_ (StepsC.cons ?_ (StepsC.cons ?_ (StepsC.cons ?_ StepsC.nil)))))))))))))
          · refine chain_is _ rfl ⟨_, rfl⟩ (by kernel_rfl) rfl ?_
            intro a W kst l0 h0 A0 hF hD
            have e0 : a.tmps[0]?.getD undef = _ := (ev a 0).symm.trans (hF 0 (by kernel_rfl))
            clear hF hD
            go_simp
          · refine chain_is _ rfl ⟨_, rfl⟩ (by kernel_rfl) rfl ?_
            intro a W kst l0 h0 A0 hF hD
            have k0 : kst = 0 := Nat.le_antisymm h0 l0
            subst k0
            clear l0 h0
            have e6 : a.tmps[6]?.getD undef = _ := (ev a 6).symm.trans (hF 6 (by kernel_rfl))
            clear hF hD
            go_simp
          · refine chain_is _ rfl ⟨_, rfl⟩ (by kernel_rfl) rfl ?_
            intro a W kst l0 h0 A0 hF hD
            have k0 : kst = 0 := Nat.le_antisymm h0 l0
            subst k0
            clear l0 h0
            have e1 : a.tmps[1]?.getD undef = _ := (ev a 1).symm.trans (hF 1 (by kernel_rfl))
            clear hF hD
            go_simp
          · refine chain_is _ rfl ⟨_, rfl⟩ (by kernel_rfl) rfl ?_
            intro a W kst l0 h0 A0 hF hD
            have k0 : kst = 0 := Nat.le_antisymm h0 l0
            subst k0
            clear l0 h0
            have e103 : a.tmps[103]?.getD undef = .slice ao k cap := (ev a 103).symm.trans (hD _ (Array.mem_of_getElem? (i := 0) rfl) rfl)
            have e104 : a.tmps[104]?.getD undef = .int .i64 d := (ev a 104).symm.trans (hD _ (Array.mem_of_getElem? (i := 1) rfl) rfl)
            clear hF hD
            go_simp
          · refine chain_run rfl ⟨_, rfl⟩ (by kernel_rfl) ?_
            intro a W kst l0 h0 A0 hF hD
            have k0 : kst = 0 := Nat.le_antisymm h0 l0
            subst k0
            clear l0 h0
            have e105 : a.tmps[105]?.getD undef = .slice ao d cap := (ev a 105).symm.trans (hD _ (Array.mem_of_getElem? (i := 0) rfl) rfl)
            clear hF hD
            have A1 : Upd [] wc W := A0
            have HR0 := (HRD.out.upd A1).cut (m := d) (by omega)
            rw [← avCells_take] at HR0
            obtain ⟨ao1, cap1, w5, own1, hrun, ho1, hin1, hu5⟩ := run_append_Rd (P := Try.prog) W 25 25 27 i0 _ 5 40 Try.underlying25 hi hz0 hz1 hz2 rfl (by decide) _ 0 _ _ (Own.nil _ _ _) _ _ _ HR0 (by simp only [maxLen]; omega) (by omega)
            have hl : 0 + d = (L.take d).length := by rw [List.length_take, HLN.out]; omega
            exact ⟨_, w5, exec_append rfl rfl ((ev a 105).trans e105) hrun, trivial, A1.trans hu5, own1, by (rw [← hl]; simpa using ho1), fun k hk => by have h1 := (hin1 k hk).resolve_left (by simp); have := A1.size; omega⟩
          · refine chain_is _ rfl ⟨_, rfl⟩ (by kernel_rfl) rfl ?_
            intro a W kst l0 h0 A0 hF hD
            have e6 : a.tmps[6]?.getD undef = _ := (ev a 6).symm.trans (hF 6 (by kernel_rfl))
            clear hF hD
            go_simp
          · refine chain_is _ rfl ⟨_, rfl⟩ (by kernel_rfl) rfl ?_
            intro a W kst l0 h0 A0 hF hD
            have e1 : a.tmps[1]?.getD undef = _ := (ev a 1).symm.trans (hF 1 (by kernel_rfl))
            clear hF hD
            go_simp
          · refine chain_is _ rfl ⟨_, rfl⟩ (by kernel_rfl) rfl ?_
            intro a W kst l0 h0 A0 hF hD
            have e108 : a.tmps[108]?.getD undef = .int .i64 d := (ev a 108).symm.trans (hD _ (Array.mem_of_getElem? (i := 0) rfl) rfl)
            clear hF hD
            go_simp
          · refine chain_is _ rfl ⟨_, rfl⟩ (by kernel_rfl) rfl ?_
            intro a W kst l0 h0 A0 hF hD
            have e107 : a.tmps[107]?.getD undef = .slice ao k cap := (ev a 107).symm.trans (hD _ (Array.mem_of_getElem? (i := 0) rfl) rfl)
            have e109 : a.tmps[109]?.getD undef = .int .i64 ((d : Int) + 1) := (ev a 109).symm.trans (hD _ (Array.mem_of_getElem? (i := 1) rfl) rfl)
            clear hF hD
            go_simp
          · refine chain_run rfl ⟨_, rfl⟩ (by kernel_rfl) ?_
            intro a W kst l0 h0 A0 hF hD
            have k0 : kst = 1 := Nat.le_antisymm h0 l0
            subst k0
            clear l0 h0
            have e110 : a.tmps[110]?.getD undef = vT := (ev a 110).symm.trans (hD _ (Array.mem_of_getElem? (i := 1) rfl) rfl)
            clear hF hD
            obtain ⟨A1, own0, HO, hn0⟩ := A0
            have HR0 := (HRD.out.upd A1).tail (m := d + 1) (by omega)
            rw [← avCells_drop, ← HVT.out] at HR0
            have hlt2 : (L.take d).length ≤ 4 := by have := HLN.out; rw [List.length_take]; omega
            obtain ⟨ao1, cap1, w5, own1, hrun, ho1, hin1, hu5⟩ := run_append_Rd (P := Try.prog) W 25 25 27 i0 _ 5 40 Try.underlying25 hi hz0 hz1 hz2 rfl (by decide) _ (L.take d).length _ _ HO _ _ _ HR0 (by simp only [maxLen]; omega) (by omega)
            have hl : (L.take d).length + (k - (d + 1)) = (dropAt L d).length := by rw [dropAt, List.length_append, List.length_drop, HLN.out]
            refine ⟨_, w5, exec_append rfl rfl ((ev a 110).trans e110) hrun, trivial, A1.trans' hu5 (fun x hx => .inr (hn0 x hx)), AvsAt.of_own (e := 27) (own := own1) ?_⟩
            rw [← hl, dropAt, avCells_append]
            exact ho1
          · refine chain_call rfl ⟨_, rfl⟩ (by kernel_rfl) ?_
            intro a W kst l0 h0 A0 hF hD
            have k0 : kst = 2 := Nat.le_antisymm h0 l0
            subst k0
            clear l0 h0
            have e102 : a.tmps[102]?.getD undef = .int .i64 kind := (ev a 102).symm.trans (hD _ (Array.mem_of_getElem? (i := 0) rfl) rfl)
            clear hF hD
            have A1 : AvsAt W (a.tmps[111]?.getD undef) (dropAt L d) := by rw [← ev]; exact A0.2
            have A2 := A0.1
            refine ⟨_, _, by (go_simp; first | done | rfl | exact ⟨rfl, rfl⟩), ?_⟩
            refine (make_any kind (dropAt L d) _ _ A1 (by have := HDL.out d hd; omega)).mono ?_
            rintro e w3 ⟨u1, own1, rfl, ho1, -, hu2⟩
            exact ⟨_, rfl, trivial, A2.trans hu2, make_avs ho1⟩
          · refine chain_run rfl ⟨_, rfl⟩ (by kernel_rfl) ?_
            intro a W kst l0 h0 A0 hF hD
            have k0 : kst = 3 := Nat.le_antisymm h0 l0
            subst k0
            clear l0 h0
            clear hF hD
            have A1 : AvsAt W (a.tmps[112]?.getD undef) (numAv 0 kind 2 :: dropAt L d) := by rw [← ev]; exact A0.2
            have A2 := A0.1
            obtain ⟨m, hm⟩ : ∃ m, m = a.tmps[112]?.getD undef := ⟨_, rfl⟩
            rw [← hm] at A1
            obtain ⟨ao8, cap8, hv, -, -, -⟩ := id A1
            obtain ⟨nn, hnn⟩ : ∃ n, n = (numAv 0 kind 2 :: dropAt L d).length := ⟨_, rfl⟩
            rw [← hnn] at hv
            clear hnn
            have e112 : a.tmps[112]?.getD undef = .slice ao8 nn cap8 := hm.symm.trans hv
            rw [hv] at A1
            clear hm hv
            exact ⟨.agg #[.int .i64 0, .int .i64 0, .int .i64 0, .int .i64 0, .slice ao8 nn cap8], W, by go_simp, trivial, A2, _, rfl, A1⟩
          · refine chain_call rfl ⟨_, rfl⟩ (by kernel_rfl) ?_
            intro a W kst l0 h0 A0 hF hD
            have k0 : kst = 4 := Nat.le_antisymm h0 l0
            subst k0
            clear l0 h0
            clear hF hD
            obtain ⟨A2, m, hg, hm⟩ := A0
            have e113 : a.tmps[113]?.getD undef = _ := (ev a 113).symm.trans hg
            refine ⟨_, _, by (go_simp; first | done | rfl | exact ⟨rfl, rfl⟩), ?_⟩
            refine (check_any 0 0 0 0 m _ _ hm (Z2.out d)).mono ?_
            rintro e w3 ⟨rfl, hu2⟩
            exact ⟨_, rfl, trivial, A2.trans hu2, rfl⟩
          · refine chain_run rfl ⟨_, rfl⟩ (by kernel_rfl) ?_
            intro a W kst l0 h0 A0 hF hD
            have k0 : kst = 5 := Nat.le_antisymm h0 l0
            subst k0
            clear l0 h0
            clear hF hD
            obtain ⟨A2, he⟩ := A0
            have e114 : a.tmps[114]?.getD undef = _ := (ev a 114).symm.trans he
            exact ⟨_, W, by (go_simp; first | done | rfl | exact ⟨rfl, rfl⟩), trivial, A2, rfl⟩
        intro vals W hv hA
        have v0 : vals 0 = .int .i64 kind := hv 0 (by decide)
        have v1 : vals 1 = .slice ao k cap := hv 1 (by decide)
        have v2 : vals 2 = .int .i64 d := hv 2 (by decide)
        have v3 : vals 3 = .slice ao d cap := hv 3 (by decide)
        have v5 : vals 5 = .slice ao k cap := hv 5 (by decide)
        have v6 : vals 6 = .int .i64 d := hv 6 (by decide)
        have v7 : vals 7 = .int .i64 ((d : Int) + 1) := hv 7 (by decide)
        have v8 : vals 8 = vT := hv 8 (by decide)
        clear hv
        obtain ⟨hu4, h13⟩ := hA
        have h13 : vals 13 = .int .i64 (checkOf (numAv 0 kind 2 :: dropAt L d)) := h13
        rw [HK.out d hd] at h13
        have HU4 := Lib.hid (HU3.out.trans hu4)
        have HA4 := Lib.hid (HA3.out.upd hu4)
        simp only [putAll, Act.put, Nat.zero_add, Nat.reduceAdd, h13, v0, v1, v2, v3, v5, v6, v7, v8, List.setIfInBounds_toArray, List.set_cons_zero, List.set_cons_succ]
        clear v0 v1 v2 v3 v5 v6 v7 v8
        clear h13 hu4 HU3 HA3 hsl hss hw7 HRD
        obtain ⟨HG0, HG1⟩ := HG.out
        have HG0 := Lib.hid HG0
        have HG1 := Lib.hid HG1
        have HU4 : Hid (Upd [] w W) := HU1.out.trans HU4.out
        obtain ⟨wa, hwa⟩ : ∃ x, x = W := ⟨_, rfl⟩
        rw [← hwa] at HU4 HA4
        rw [← hwa]
        clear hwa
        have HR := Lib.hid (HA4.out.rd)
        go_wp2_with (first
          | (at_builtin; refine wpList_append_Rd _ rfl (.const (.slice none 0 0)) (.tmp 116) 25 rfl 27 i0 _ 5 40 Try.underlying25 hi hz0 hz1 hz2 rfl (by decide) (.slice none 0 0) 0 [] [] (by rfl) (Own.nil _ _ _) _ L.length (avCells L) (by simp [Act.eval]) HR.out (by have := HLN.out; simp only [maxLen]; omega) (by have := HLN.out; omega) ?_; intro ao1 cap1 w5 own1 ho1 hin1 hu5; have HO1 := Lib.hid (ho1.alloc (.cells #[.bool false, .bool false, .int .i64 9, .int .i64 1, .string ⟨#[]⟩] 27)); have HIN1 := Lib.hid hin1; have HV5 := Lib.hid (hu5.alloc (.cells #[.bool false, .bool false, .int .i64 9, .int .i64 1, .string ⟨#[]⟩] 27)); have HR1 := Lib.hid (AvsAt.of_blk (l := [(⟨false, false, 9, 1, ⟨#[]⟩⟩ : Av)]) (Blk.new w5 27 #[.bool false, .bool false, .int .i64 9, .int .i64 1, .string ⟨#[]⟩]) (by simp [maxLen])).rd; clear ho1 hin1 hu5; generalize Value.slice ao1 (0 + L.length) cap1 = v5 at *)
          | (at_builtin; refine wpList_append_Rd _ rfl (.tmp 117) (.tmp 119) 25 rfl 27 i0 _ 5 40 Try.underlying25 hi hz0 hz1 hz2 rfl (by decide) _ (0 + L.length) ([] ++ avCells L) own1 (by simp [Act.eval]) HO1.out _ 1 (avCells [(⟨false, false, 9, 1, ⟨#[]⟩⟩ : Av)]) (by simp [Act.eval]) HR1.out (by have := HLN.out; simp only [maxLen]; omega) (by have := HLN.out; omega) ?_; intro ao2 cap2 w6 own2 ho2 hin2 hu6; have HO2 := Lib.hid ho2; have HV6 := Lib.hid hu6; clear ho2 hin2 hu6; generalize Value.slice ao2 (0 + L.length + 1) cap2 = v6 at *))
        have HAm : Hid (AvsAt w6 v6 (L ++ [(⟨false, false, 9, 1, ⟨#[]⟩⟩ : Av)])) := by
          refine AvsAt.of_own (e := 27) (own := own2) ?_
          have h := HO2.out
          rw [avCells_append, List.length_append, List.length_singleton]
          simpa using h
        have HU7 : Hid (Upd [] wa w6) := by
          show Upd _ _ _
          refine HV5.out.trans' HV6.out (fun x hx => .inr ?_)
          exact (HIN1.out x hx).resolve_left (by simp)
        have HA5 := Lib.hid (HA4.out.upd HU7.out)
        have HU5 := Lib.hid (HU4.out.trans HU7.out)
        clear HO1 HIN1 HV5 HR1 HO2 HV6 HU7 HR
        refine (make_any kind (L ++ [(⟨false, false, 9, 1, ⟨#[]⟩⟩ : Av)]) _ _ HAm.out (by have := HLN.out; rw [List.length_append, List.length_singleton]; omega)).mono ?_
        rintro e w7 ⟨u1, own1, rfl, ho1, -, hu2⟩
        have HM1 := Lib.hid (make_avs ho1)
        have HU5b := Lib.hid (HU5.out.trans hu2)
        have HA5b := Lib.hid (HA5.out.upd hu2)
        rw [show 1 + (L ++ [(⟨false, false, 9, 1, ⟨#[]⟩⟩ : Av)]).length = k + 2 by rw [List.length_append, List.length_singleton, HLN.out]; omega] at ho1
        obtain ⟨ao7, cap7, rfl, -, -⟩ := ho1.shape
        clear hu2 ho1 HAm HA5 HU5
        go_wp2_with fail
        refine (check_any 0 0 0 0 _ _ _ HM1.out ?_).mono ?_
        · intro a ha
          rcases List.mem_cons.1 ha with rfl | ha
          · exact Z.out _ (by simp)
          · rcases List.mem_append.1 ha with ha | ha
            · exact Z.out _ (by simp [ha])
            · simp at ha; subst ha; exact Nat.zero_le _
        rintro e w8 ⟨rfl, hu3⟩
        have HU5 := Lib.hid (HU5b.out.trans hu3)
        have HA5 := Lib.hid (HA5b.out.upd hu3)
        clear hu3 HU5b HA5b HM1
        rw [HG0.out]
        obtain ⟨wb, hwb⟩ : ∃ x, x = w8 := ⟨_, rfl⟩
        rw [← hwb] at HU5 HA5
        rw [← hwb]
        clear hwb
        have HR := Lib.hid (HA5.out.rd)
        go_wp2_with (first
          | (at_builtin; refine wpList_append_Rd _ rfl (.const (.slice none 0 0)) (.tmp 125) 25 rfl 27 i0 _ 5 40 Try.underlying25 hi hz0 hz1 hz2 rfl (by decide) (.slice none 0 0) 0 [] [] (by rfl) (Own.nil _ _ _) _ L.length (avCells L) (by simp [Act.eval]) HR.out (by have := HLN.out; simp only [maxLen]; omega) (by have := HLN.out; omega) ?_; intro ao1 cap1 w5 own1 ho1 hin1 hu5; have HO1 := Lib.hid (ho1.alloc (.cells #[.bool true, .bool false, .int .i64 9, .int .i64 1, .string ⟨#[]⟩] 27)); have HIN1 := Lib.hid hin1; have HV5 := Lib.hid (hu5.alloc (.cells #[.bool true, .bool false, .int .i64 9, .int .i64 1, .string ⟨#[]⟩] 27)); have HR1 := Lib.hid (AvsAt.of_blk (l := [(⟨true, false, 9, 1, ⟨#[]⟩⟩ : Av)]) (Blk.new w5 27 #[.bool true, .bool false, .int .i64 9, .int .i64 1, .string ⟨#[]⟩]) (by simp [maxLen])).rd; clear ho1 hin1 hu5; generalize Value.slice ao1 (0 + L.length) cap1 = v5 at *)
          | (at_builtin; refine wpList_append_Rd _ rfl (.tmp 126) (.tmp 128) 25 rfl 27 i0 _ 5 40 Try.underlying25 hi hz0 hz1 hz2 rfl (by decide) _ (0 + L.length) ([] ++ avCells L) own1 (by simp [Act.eval]) HO1.out _ 1 (avCells [(⟨true, false, 9, 1, ⟨#[]⟩⟩ : Av)]) (by simp [Act.eval]) HR1.out (by have := HLN.out; simp only [maxLen]; omega) (by have := HLN.out; omega) ?_; intro ao2 cap2 w6 own2 ho2 hin2 hu6; have HO2 := Lib.hid ho2; have HV6 := Lib.hid hu6; clear ho2 hin2 hu6; generalize Value.slice ao2 (0 + L.length + 1) cap2 = v6 at *))
        have HAm : Hid (AvsAt w6 v6 (L ++ [(⟨true, false, 9, 1, ⟨#[]⟩⟩ : Av)])) := by
          refine AvsAt.of_own (e := 27) (own := own2) ?_
          have h := HO2.out
          rw [avCells_append, List.length_append, List.length_singleton]
          simpa using h
        have HU7 : Hid (Upd [] wb w6) := by
          show Upd _ _ _
          refine HV5.out.trans' HV6.out (fun x hx => .inr ?_)
          exact (HIN1.out x hx).resolve_left (by simp)
        have HA6 := Lib.hid (HA5.out.upd HU7.out)
        have HU6 := Lib.hid (HU5.out.trans HU7.out)
        clear HO1 HIN1 HV5 HR1 HO2 HV6 HU7 HR
        refine (make_any kind (L ++ [(⟨true, false, 9, 1, ⟨#[]⟩⟩ : Av)]) _ _ HAm.out (by have := HLN.out; rw [List.length_append, List.length_singleton]; omega)).mono ?_
        rintro e w7 ⟨u1, own1, rfl, ho1, -, hu2⟩
        have HM1 := Lib.hid (make_avs ho1)
        have HU6b := Lib.hid (HU6.out.trans hu2)
        have HA6b := Lib.hid (HA6.out.upd hu2)
        rw [show 1 + (L ++ [(⟨true, false, 9, 1, ⟨#[]⟩⟩ : Av)]).length = k + 2 by rw [List.length_append, List.length_singleton, HLN.out]; omega] at ho1
        obtain ⟨ao7, cap7, rfl, -, -⟩ := ho1.shape
        clear hu2 ho1 HAm HA6 HU6
        go_wp2_with fail
        refine (check_any 0 0 0 0 _ _ _ HM1.out ?_).mono ?_
        · intro a ha
          rcases List.mem_cons.1 ha with rfl | ha
          · exact Z.out _ (by simp)
          · rcases List.mem_append.1 ha with ha | ha
            · exact Z.out _ (by simp [ha])
            · simp at ha; subst ha; exact Nat.zero_le _
        rintro e w8 ⟨rfl, hu3⟩
        have HU6 := Lib.hid (HU6b.out.trans hu3)
        have HA6 := Lib.hid (HA6b.out.upd hu3)
        clear hu3 HU6b HA6b HM1
        rw [HG1.out]
        go_wp2_with fail
        refine (alive_any _).mono ?_
        rintro e w9 ⟨rfl, hu9⟩
        have HU9 := Lib.hid (HU6.out.trans hu9)
        clear hu9
        go_wp2_with fail
        go_ret
        exact ⟨rfl, HU9.out⟩
set_option maxHeartbeats 2000000 in
theorem msgWhole_walk (kind : Int) (_ : (Lit.int .i64 kind).wf = true) (drop : Int) (_ : (Lit.int .i64 drop).wf = true) (w : World) :
    Calls Try.prog 3 #[.int .i64 kind, .int .i64 drop] w fun e w' => e = .returned (.bool true) ∧ Below w.heap.size w w' := by
  refine Calls.mono (R := fun e w' => e = .returned (.bool true) ∧ Upd [] w w') ?_ fun e w' ⟨he, hu⟩ => ⟨he, hu.below⟩
  by_cases hk : kind < 0 ∨ 65535 < kind
  · exact msgWhole_out kind drop hk w
  · cases hn : needsOf kind with
    | none => exact msgWhole_none kind drop (by omega) hn w
    | some ns => exact msgWhole_some kind drop ns hn w
end Go.Proofs.Ytcplhlokbnaabaa
