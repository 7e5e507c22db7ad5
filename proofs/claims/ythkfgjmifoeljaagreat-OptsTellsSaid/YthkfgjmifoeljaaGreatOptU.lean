/- The walk of the document's own Get (chapter 10), and of the book's SamePackets at one packet each. -/
import Derived.Test.YthkfgjmifoeljaaGreatOptT
import Derived.Test.YthkfgjmifoeljaaGreatBkOptionsA
import Derived.Test.YthkfgjmifoeljaaGreatRes2
namespace Go.Proofs.YthkfgjmifoeljaaGreat
open Go.RowKit
set_option linter.unusedSimpArgs false
set_option linter.unusedVariables false
set_option maxRecDepth 100000

theorem Pk.get_err {b : ByteArray} (h : (Pk.ofData b).2 ≠ 0) (hz : (Pk.ofData b).1 = Pk.zero) : Pk.get b = (Pk.zero, (Pk.ofData b).2) := by
  rw [Pk.get, if_pos (.inl h), ← hz]
theorem Pk.get_plain {b : ByteArray} {c i : Int} {X : ByteArray} (h : Pk.ofData b = (⟨c, i, [], X⟩, 0)) (hc : hasOpts c = false) : Pk.get b = (⟨c, i, [], X⟩, 0) := by
  rw [Pk.get, if_pos (.inr (by rw [h]; exact hc)), h]
theorem Pk.get_bad {b : ByteArray} {c i : Int} {X : ByteArray} (h : Pk.ofData b = (⟨c, i, [], X⟩, 0)) (hc : hasOpts c = true) (he : (getOpts X).2 ≠ 0) : Pk.get b = (Pk.zero, (getOpts X).2) := by
  rw [Pk.get, if_neg (by rw [h]; simp [hc]), if_pos (by rw [h]; exact he), h]
theorem Pk.get_opts {b : ByteArray} {c i : Int} {X : ByteArray} (h : Pk.ofData b = (⟨c, i, [], X⟩, 0)) (hc : hasOpts c = true) (he : (getOpts X).2 = 0) : Pk.get b = (⟨c, i, (getOpts X).1, ⟨#[]⟩⟩, 0) := by
  rw [Pk.get, if_neg (by rw [h]; simp [hc]), if_neg (by rw [h]; simpa using he), h]

set_option maxHeartbeats 4000000 in
theorem rget_any (b : ByteArray) (hb : b.size ≤ maxLen) (w : World) :
    Calls Tryz.prog 12 #[.string b] w (GivesPk (Pk.get b) w) := by
  have HB := Lib.hid hb
  simp only [maxLen] at hb
  by_cases t1 : b.size < 4
  · have H1 : Hid (Pk.ofData b = (.zero, 5)) := if_pos t1
    have HP : Hid (Pk.get b = (Pk.zero, (Pk.ofData b).2)) := Pk.get_err (by rw [H1.out]; decide) (by rw [H1.out])
    rw [HP.out, H1.out]
    go_enter Tryz.func12, Tryz.ntmps12
    go_wp2_with fail
    exact bodyPost_ret (v := .tuple #[Pk.zero.val (.slice none 0 0), .int .i64 5]) (by simp [results, Tryz.results12, go_sem, Pk.zero, Pk.val]) rfl ⟨_, [], rfl, Own.nil _ _ _, by simp, (Upd.refl _ _).alloc _⟩
  have t1' : ¬ ((b.size : Int) < 4) := by omega
  have hN := num_bd b 2 2
  by_cases t2 : num b 2 2 < 4
  · have H1 : Hid (Pk.ofData b = (.zero, 4)) := by
      show _ = _
      rw [Pk.ofData, if_neg t1, if_pos t2]
    have HP : Hid (Pk.get b = (Pk.zero, (Pk.ofData b).2)) := Pk.get_err (by rw [H1.out]; decide) (by rw [H1.out])
    rw [HP.out, H1.out]
    go_enter Tryz.func12, Tryz.ntmps12
    go_wp2_with (go_at_call 38; refine (rnum_any b 2 HB.out (by omega) _).mono ?_; rintro e w1 ⟨rfl, hu1⟩; have HU1 := Lib.hid hu1; have B1 := ((Blk.new w 24 #[Value.int IntKind.i64 0, Value.int IntKind.i64 0, Value.slice none 0 0, Value.string { data := #[] }]).upd hu1 (by simp)); have HB1 := Lib.hid B1; have s0 := B1.cell 0; have s1 := B1.cell 1; have s2 := B1.cell 2; have s3 := B1.cell 3; have f0 := B1.frozen 0; have f1 := B1.frozen 1; have f2 := B1.frozen 2; have f3 := B1.frozen 3; have hlt := B1.lt; clear hu1 B1; simp at s0 s1 s2 s3)
    exact bodyPost_ret (v := .tuple #[Pk.zero.val (.slice none 0 0), .int .i64 4]) (by simp [results, Tryz.results12, go_sem, Pk.zero, Pk.val, s0, s1, s2, s3]) rfl ⟨_, [], rfl, Own.nil _ _ _, by simp, (((((((Upd.refl _ _).alloc _).trans HU1.out).setCell _ (.inr (Nat.le_refl _))).setCell _ (.inr (Nat.le_refl _))).setCell _ (.inr (Nat.le_refl _))).setCell _ (.inr (Nat.le_refl _)))⟩
  by_cases t3 : 1492 < num b 2 2
  · have H1 : Hid (Pk.ofData b = (.zero, 2)) := by
      show _ = _
      rw [Pk.ofData, if_neg t1, if_neg t2, if_pos t3]
    have HP : Hid (Pk.get b = (Pk.zero, (Pk.ofData b).2)) := Pk.get_err (by rw [H1.out]; decide) (by rw [H1.out])
    rw [HP.out, H1.out]
    go_enter Tryz.func12, Tryz.ntmps12
    go_wp2_with (go_at_call 38; refine (rnum_any b 2 HB.out (by omega) _).mono ?_; rintro e w1 ⟨rfl, hu1⟩; have HU1 := Lib.hid hu1; have B1 := ((Blk.new w 24 #[Value.int IntKind.i64 0, Value.int IntKind.i64 0, Value.slice none 0 0, Value.string { data := #[] }]).upd hu1 (by simp)); have HB1 := Lib.hid B1; have s0 := B1.cell 0; have s1 := B1.cell 1; have s2 := B1.cell 2; have s3 := B1.cell 3; have f0 := B1.frozen 0; have f1 := B1.frozen 1; have f2 := B1.frozen 2; have f3 := B1.frozen 3; have hlt := B1.lt; clear hu1 B1; simp at s0 s1 s2 s3)
    exact bodyPost_ret (v := .tuple #[Pk.zero.val (.slice none 0 0), .int .i64 2]) (by simp [results, Tryz.results12, go_sem, Pk.zero, Pk.val, s0, s1, s2, s3]) rfl ⟨_, [], rfl, Own.nil _ _ _, by simp, (((((((Upd.refl _ _).alloc _).trans HU1.out).setCell _ (.inr (Nat.le_refl _))).setCell _ (.inr (Nat.le_refl _))).setCell _ (.inr (Nat.le_refl _))).setCell _ (.inr (Nat.le_refl _)))⟩
  by_cases t4 : (b.size : Int) < num b 2 2
  · have H1 : Hid (Pk.ofData b = (.zero, 5)) := by
      show _ = _
      rw [Pk.ofData, if_neg t1, if_neg t2, if_neg t3, if_pos t4]
    have HP : Hid (Pk.get b = (Pk.zero, (Pk.ofData b).2)) := Pk.get_err (by rw [H1.out]; decide) (by rw [H1.out])
    rw [HP.out, H1.out]
    go_enter Tryz.func12, Tryz.ntmps12
    go_wp2_with (go_at_call 38; refine (rnum_any b 2 HB.out (by omega) _).mono ?_; rintro e w1 ⟨rfl, hu1⟩; have HU1 := Lib.hid hu1; have B1 := ((Blk.new w 24 #[Value.int IntKind.i64 0, Value.int IntKind.i64 0, Value.slice none 0 0, Value.string { data := #[] }]).upd hu1 (by simp)); have HB1 := Lib.hid B1; have s0 := B1.cell 0; have s1 := B1.cell 1; have s2 := B1.cell 2; have s3 := B1.cell 3; have f0 := B1.frozen 0; have f1 := B1.frozen 1; have f2 := B1.frozen 2; have f3 := B1.frozen 3; have hlt := B1.lt; clear hu1 B1; simp at s0 s1 s2 s3)
    exact bodyPost_ret (v := .tuple #[Pk.zero.val (.slice none 0 0), .int .i64 5]) (by simp [results, Tryz.results12, go_sem, Pk.zero, Pk.val, s0, s1, s2, s3]) rfl ⟨_, [], rfl, Own.nil _ _ _, by simp, (((((((Upd.refl _ _).alloc _).trans HU1.out).setCell _ (.inr (Nat.le_refl _))).setCell _ (.inr (Nat.le_refl _))).setCell _ (.inr (Nat.le_refl _))).setCell _ (.inr (Nat.le_refl _)))⟩
  obtain ⟨j, hj⟩ : ∃ j : Nat, num b 2 2 = j := Int.eq_ofNat_of_zero_le hN.1
  obtain ⟨X, hX⟩ : ∃ X, X = b.extract 4 j := ⟨_, rfl⟩
  have H1 : Hid (Pk.ofData b = (⟨byte b 0, byte b 1, [], X⟩, 0)) := by
    show _ = _
    rw [Pk.ofData, if_neg t1, if_neg t2, if_neg t3, if_neg t4, hj, Int.toNat_natCast, hX]
  have HXS : Hid (X.size ≤ 140737488355328) := by
    show X.size ≤ _
    rw [hX, ByteArray.size_extract]
    rw [hj] at t3
    omega
  have HX := Lib.hid hX
  have HJ := Lib.hid hj
  rw [hj] at t2 t3 t4
  obtain ⟨y0, hy0⟩ : ∃ y, y = byte b 0 := ⟨_, rfl⟩
  obtain ⟨y1, hy1⟩ : ∃ y, y = byte b 1 := ⟨_, rfl⟩
  have hb0 := byte_get b 0 (by omega)
  have hb1 := byte_get b 1 (by omega)
  have y0b := byte_bd b 0
  have y1b := byte_bd b 1
  rw [← hy0] at H1 hb0 y0b
  rw [← hy1] at H1 hb1 y1b
  have HB0 := Lib.hid hb0
  have HB1 := Lib.hid hb1
  obtain ⟨hc, hhc⟩ : ∃ x, x = hasOpts y0 := ⟨_, rfl⟩
  have HC := Lib.hid hhc.symm
  obtain ⟨R, hR⟩ : ∃ x, x = Pk.get b := ⟨_, rfl⟩
  rw [← hR]
  have HR := Lib.hid hR
  clear hN hj hX hb0 hb1 hy0 hy1 hhc hR
  have key : ∀ (w2 : World) (g : Nat), Upd [] w w2 → Blk w2 w.heap.size 24 #[Value.int IntKind.i64 0, Value.int IntKind.i64 0, Value.slice none 0 0, Value.string { data := #[] }] → Blk w2 g 24 #[.int .i64 y0, .int .i64 y1, .slice none 0 0, .string X] → w.heap.size < g → True := fun _ _ _ _ _ _ => trivial
  clear key
  cases hc with
  | false =>
    have HP : Hid (R = (⟨y0, y1, [], X⟩, 0)) := HR.out.trans (Pk.get_plain H1.out HC.out)
    go_enter Tryz.func12, Tryz.ntmps12
    go_wp2_with (go_at_call 38; refine (rnum_any b 2 HB.out (by omega) _).mono ?_; rintro e w1 ⟨rfl, hu1⟩; rw [HJ.out]; have HU1 := Lib.hid hu1; have B1 := ((Blk.new w 24 #[Value.int IntKind.i64 0, Value.int IntKind.i64 0, Value.slice none 0 0, Value.string { data := #[] }]).upd hu1 (by simp)); have HBZ := Lib.hid B1; have s0 := B1.cell 0; have s1 := B1.cell 1; have s2 := B1.cell 2; have s3 := B1.cell 3; have f0 := B1.frozen 0; have f1 := B1.frozen 1; have f2 := B1.frozen 2; have f3 := B1.frozen 3; have hlt := B1.lt; clear hu1 B1; simp at s0 s1 s2 s3)
    have U0 : Upd [] w w1 := ((Upd.refl _ _).alloc _).trans HU1.out
    have HU0 := Lib.hid U0
    clear s0 s1 s2 s3 f0 f1 f2 f3 U0
    refine wp_region_chain [some (.string b), some (.int .u8 y0), some (.int .i64 y0), some (.string b), some (.int .u8 y1), some (.int .i64 y1), some (.string b), some (.int .i64 j), some (.string X), some (.agg #[.int .i64 y0, .int .i64 y1, .slice none 0 0, .string X]), none, none] [10,11] (newA w1 24 #[Value.int IntKind.i64 0, Value.int IntKind.i64 0, Value.slice none 0 0, Value.string ⟨#[]⟩] #[.int .i64 y0, .int .i64 y1, .slice none 0 0, .string X]) [(0, 1), (0, 1), (0, 1), (0, 1), (0, 1), (0, 1), (0, 1), (0, 1), (0, 1), (0, 1), (0, 0), (1, 1)] (by kernel_rfl) (by kernel_rfl) (by kernel_rfl) (by kernel_rfl) (by kernel_rfl) (by kernel_rfl) (((Upd.refl [] _).drew)) ?_ ?_
    · refine StepsC.cons ?_ (StepsC.cons ?_ (StepsC.cons ?_ (StepsC.cons ?_ (StepsC.cons ?_ (StepsC.cons ?_ (StepsC.cons ?_ (StepsC.cons ?_ (StepsC.cons ?_ (StepsC.cons ?_ (StepsC.cons ?_ (StepsC.cons ?_ StepsC.nil)))))))))))
      · refine chain_is _ (.inl rfl) ⟨_, rfl⟩ (by kernel_rfl) rfl ?_
        intro a W kst l0 h0 A0 hF hD
        have e0 : a.tmps[0]?.getD undef = _ := (ev a 0).symm.trans (hF 0 (by kernel_rfl))
        clear hF hD
        go_simp
      · refine chain_is _ (.inl rfl) ⟨_, rfl⟩ (by kernel_rfl) rfl ?_
        intro a W kst l0 h0 A0 hF hD
        have e28 : a.tmps[28]?.getD undef = .string b := (ev a 28).symm.trans (hD _ (Array.mem_of_getElem? (i := 0) rfl) rfl)
        clear hF hD
        have := HB0.out
        go_simp
        intro h
        subst h
        exact absurd (show (ByteArray.empty).size < 4 by decide) t1
      · refine chain_is _ (.inl rfl) ⟨_, rfl⟩ (by kernel_rfl) rfl ?_
        intro a W kst l0 h0 A0 hF hD
        have e29 : a.tmps[29]?.getD undef = .int .u8 y0 := (ev a 29).symm.trans (hD _ (Array.mem_of_getElem? (i := 0) rfl) rfl)
        clear hF hD
        go_simp
        exact IntWalk.i64_in _ (by omega)
      · refine chain_is _ (.inl rfl) ⟨_, rfl⟩ (by kernel_rfl) rfl ?_
        intro a W kst l0 h0 A0 hF hD
        have e0 : a.tmps[0]?.getD undef = _ := (ev a 0).symm.trans (hF 0 (by kernel_rfl))
        clear hF hD
        go_simp
      · refine chain_is _ (.inl rfl) ⟨_, rfl⟩ (by kernel_rfl) rfl ?_
        intro a W kst l0 h0 A0 hF hD
        have e31 : a.tmps[31]?.getD undef = .string b := (ev a 31).symm.trans (hD _ (Array.mem_of_getElem? (i := 0) rfl) rfl)
        clear hF hD
        have := HB1.out
        go_simp
        intros
        omega
      · refine chain_is _ (.inl rfl) ⟨_, rfl⟩ (by kernel_rfl) rfl ?_
        intro a W kst l0 h0 A0 hF hD
        have e32 : a.tmps[32]?.getD undef = .int .u8 y1 := (ev a 32).symm.trans (hD _ (Array.mem_of_getElem? (i := 0) rfl) rfl)
        clear hF hD
        go_simp
        exact IntWalk.i64_in _ (by omega)
      · refine chain_is _ (.inl rfl) ⟨_, rfl⟩ (by kernel_rfl) rfl ?_
        intro a W kst l0 h0 A0 hF hD
        have e0 : a.tmps[0]?.getD undef = _ := (ev a 0).symm.trans (hF 0 (by kernel_rfl))
        clear hF hD
        go_simp
      · refine chain_is _ (.inl rfl) ⟨_, rfl⟩ (by kernel_rfl) rfl ?_
        intro a W kst l0 h0 A0 hF hD
        have e4 : a.tmps[4]?.getD undef = _ := (ev a 4).symm.trans (hF 4 (by kernel_rfl))
        clear hF hD
        go_simp
      · refine chain_is _ (.inl rfl) ⟨_, rfl⟩ (by kernel_rfl) rfl ?_
        intro a W kst l0 h0 A0 hF hD
        have e34 : a.tmps[34]?.getD undef = .string b := (ev a 34).symm.trans (hD _ (Array.mem_of_getElem? (i := 0) rfl) rfl)
        have e35 : a.tmps[35]?.getD undef = .int .i64 j := (ev a 35).symm.trans (hD _ (Array.mem_of_getElem? (i := 1) rfl) rfl)
        clear hF hD
        have := HX.out
        go_simp
      · refine chain_is _ (.inl rfl) ⟨_, rfl⟩ (by kernel_rfl) rfl ?_
        intro a W kst l0 h0 A0 hF hD
        have e30 : a.tmps[30]?.getD undef = .int .i64 y0 := (ev a 30).symm.trans (hD _ (Array.mem_of_getElem? (i := 0) rfl) rfl)
        have e33 : a.tmps[33]?.getD undef = .int .i64 y1 := (ev a 33).symm.trans (hD _ (Array.mem_of_getElem? (i := 1) rfl) rfl)
        have e36 : a.tmps[36]?.getD undef = .string X := (ev a 36).symm.trans (hD _ (Array.mem_of_getElem? (i := 2) rfl) rfl)
        clear hF hD
        go_simp
      · refine chain_run (.inl rfl) ⟨_, rfl⟩ (by kernel_rfl) ?_
        intro a W kst l0 h0 A0 hF hD
        have k0 : kst = 0 := Nat.le_antisymm h0 l0
        subst k0
        clear l0 h0
        clear hF hD
        have hu : Upd [] w1 W := A0
        exact ⟨.pointer (some ⟨W.heap.size, 0, none⟩), W.alloc (.cells #[Value.int IntKind.i64 0, Value.int IntKind.i64 0, Value.slice none 0 0, Value.string ⟨#[]⟩] 24), by (go_simp; first | done | rfl), trivial, hu.alloc _, W.heap.size, hu.size, rfl, Blk.new _ _ _⟩
      · refine chain_set (.inl rfl) rfl (by kernel_rfl) trivial ?_
        intro a W kst l0 h0 A0 hF hD
        have k0 : kst = 1 := Nat.le_antisymm h0 l0
        subst k0
        clear l0 h0
        have e37 : a.tmps[37]?.getD undef = .agg #[.int .i64 y0, .int .i64 y1, .slice none 0 0, .string X] := (ev a 37).symm.trans (hD _ (Array.mem_of_getElem? (i := 1) rfl) rfl)
        clear hF hD
        obtain ⟨hu, g, hg, hp, hbk⟩ := A0
        have e5 : a.tmps[5]?.getD undef = _ := (ev a 5).symm.trans hp
        have s0 := hbk.cell 0
        have s1 := hbk.cell 1
        have s2 := hbk.cell 2
        have s3 := hbk.cell 3
        have f0 := hbk.frozen 0
        have f1 := hbk.frozen 1
        have f2 := hbk.frozen 2
        have f3 := hbk.frozen 3
        have hlt := hbk.lt
        simp only [List.size_toArray, List.length_cons, List.length_nil, List.getElem?_toArray, List.getElem?_cons_zero, List.getElem?_cons_succ] at s0 s1 s2 s3
        refine ⟨_, by (go_simp; first | done | rfl), ((((hu.setCell _ (.inr hg)).setCell _ (.inr hg)).setCell _ (.inr hg)).setCell _ (.inr hg)), g, hg, hp, (((hbk.set_ 0 _).set_ 1 _).set_ 2 _).set_ 3 _⟩
    intro vals W hv hA
    have v0 : vals 0 = .string b := hv 0 (by decide)
    have v1 : vals 1 = .int .u8 y0 := hv 1 (by decide)
    have v2 : vals 2 = .int .i64 y0 := hv 2 (by decide)
    have v3 : vals 3 = .string b := hv 3 (by decide)
    have v4 : vals 4 = .int .u8 y1 := hv 4 (by decide)
    have v5 : vals 5 = .int .i64 y1 := hv 5 (by decide)
    have v6 : vals 6 = .string b := hv 6 (by decide)
    have v7 : vals 7 = .int .i64 j := hv 7 (by decide)
    have v8 : vals 8 = .string X := hv 8 (by decide)
    have v9 : vals 9 = .agg #[.int .i64 y0, .int .i64 y1, .slice none 0 0, .string X] := hv 9 (by decide)
    clear hv
    obtain ⟨hu, g, hg, v10, hbk⟩ := hA
    simp only [putAll, Act.put, Nat.zero_add, Nat.reduceAdd, v10, v0, v1, v2, v3, v4, v5, v6, v7, v8, v9, List.setIfInBounds_toArray, List.set_cons_zero, List.set_cons_succ]
    clear v0 v1 v2 v3 v4 v5 v6 v7 v8 v9
    clear v10
    have hzlt := HBZ.out.lt
    have hgl : w.heap.size < g := by omega
    have HBK := Lib.hid hbk
    have HRS := Lib.hid (HBZ.out.upd hu (by simp))
    have HUX := Lib.hid (HU0.out.trans hu)
    have d0 := hbk.cell 0
    have d1 := hbk.cell 1
    have d2 := hbk.cell 2
    have d3 := hbk.cell 3
    have z0 := HRS.out.cell 0
    have z1 := HRS.out.cell 1
    have z2 := HRS.out.cell 2
    have z3 := HRS.out.cell 3
    have g0 := HRS.out.frozen 0
    have g1 := HRS.out.frozen 1
    have g2 := HRS.out.frozen 2
    have g3 := HRS.out.frozen 3
    have glt := HRS.out.lt
    simp only [List.size_toArray, List.length_cons, List.length_nil, List.getElem?_toArray, List.getElem?_cons_zero, List.getElem?_cons_succ] at d0 d1 d2 d3 z0 z1 z2 z3
    clear hu hbk
    go_wp2_with (go_at_call 33; refine (rconf_any _ _).mono ?_; rintro e w9 ⟨rfl, rfl⟩; rw [HC.out])
    rw [HP.out]
    exact bodyPost_ret (v := .tuple #[Pk.val ⟨y0, y1, [], X⟩ (.slice none 0 0), .int .i64 0]) (by simp [results, Tryz.results12, go_sem, Pk.val, z0, z1, z2, z3]) rfl ⟨_, [], rfl, Own.nil _ _ _, by simp, ((((HUX.out.setCell _ (.inr (Nat.le_refl _))).setCell _ (.inr (Nat.le_refl _))).setCell _ (.inr (Nat.le_refl _))).setCell _ (.inr (Nat.le_refl _)))⟩
  | true =>
    obtain ⟨Y0, Y1, hY⟩ : ∃ (x : List Tg) (e : Int), getOpts X = (x, e) := ⟨_, _, rfl⟩
    have HY := Lib.hid hY
    by_cases ye : Y1 = 0
    · subst ye
      have HP : Hid (R = (⟨y0, y1, Y0, ⟨#[]⟩⟩, 0)) := by
        have h := Pk.get_opts H1.out HC.out (by rw [hY])
        rw [hY] at h
        exact HR.out.trans h
      clear hY
      go_enter Tryz.func12, Tryz.ntmps12
      go_wp2_with (go_at_call 38; refine (rnum_any b 2 HB.out (by omega) _).mono ?_; rintro e w1 ⟨rfl, hu1⟩; rw [HJ.out]; have HU1 := Lib.hid hu1; have B1 := ((Blk.new w 24 #[Value.int IntKind.i64 0, Value.int IntKind.i64 0, Value.slice none 0 0, Value.string { data := #[] }]).upd hu1 (by simp)); have HBZ := Lib.hid B1; have s0 := B1.cell 0; have s1 := B1.cell 1; have s2 := B1.cell 2; have s3 := B1.cell 3; have f0 := B1.frozen 0; have f1 := B1.frozen 1; have f2 := B1.frozen 2; have f3 := B1.frozen 3; have hlt := B1.lt; clear hu1 B1; simp at s0 s1 s2 s3)
      have U0 : Upd [] w w1 := ((Upd.refl _ _).alloc _).trans HU1.out
      have HU0 := Lib.hid U0
      clear s0 s1 s2 s3 f0 f1 f2 f3 U0
      refine wp_region_chain [some (.string b), some (.int .u8 y0), some (.int .i64 y0), some (.string b), some (.int .u8 y1), some (.int .i64 y1), some (.string b), some (.int .i64 j), some (.string X), some (.agg #[.int .i64 y0, .int .i64 y1, .slice none 0 0, .string X]), none, none] [10,11] (newA w1 24 #[Value.int IntKind.i64 0, Value.int IntKind.i64 0, Value.slice none 0 0, Value.string ⟨#[]⟩] #[.int .i64 y0, .int .i64 y1, .slice none 0 0, .string X]) [(0, 1), (0, 1), (0, 1), (0, 1), (0, 1), (0, 1), (0, 1), (0, 1), (0, 1), (0, 1), (0, 0), (1, 1)] (by kernel_rfl) (by kernel_rfl) (by kernel_rfl) (by kernel_rfl) (by kernel_rfl) (by kernel_rfl) (((Upd.refl [] _).drew)) ?_ ?_
      · refine StepsC.cons ?_ (StepsC.cons ?_ (StepsC.cons ?_ (StepsC.cons ?_ (StepsC.cons ?_ (StepsC.cons ?_ (StepsC.cons ?_ (StepsC.cons ?_ (StepsC.cons ?_ (StepsC.cons ?_ (StepsC.cons ?_ (StepsC.cons ?_ StepsC.nil)))))))))))
        · refine chain_is _ (.inl rfl) ⟨_, rfl⟩ (by kernel_rfl) rfl ?_
          intro a W kst l0 h0 A0 hF hD
          have e0 : a.tmps[0]?.getD undef = _ := (ev a 0).symm.trans (hF 0 (by kernel_rfl))
          clear hF hD
          go_simp
        · refine chain_is _ (.inl rfl) ⟨_, rfl⟩ (by kernel_rfl) rfl ?_
          intro a W kst l0 h0 A0 hF hD
          have e28 : a.tmps[28]?.getD undef = .string b := (ev a 28).symm.trans (hD _ (Array.mem_of_getElem? (i := 0) rfl) rfl)
          clear hF hD
          have := HB0.out
          go_simp
          intro h
          subst h
          exact absurd (show (ByteArray.empty).size < 4 by decide) t1
        · refine chain_is _ (.inl rfl) ⟨_, rfl⟩ (by kernel_rfl) rfl ?_
          intro a W kst l0 h0 A0 hF hD
          have e29 : a.tmps[29]?.getD undef = .int .u8 y0 := (ev a 29).symm.trans (hD _ (Array.mem_of_getElem? (i := 0) rfl) rfl)
          clear hF hD
          go_simp
          exact IntWalk.i64_in _ (by omega)
        · refine chain_is _ (.inl rfl) ⟨_, rfl⟩ (by kernel_rfl) rfl ?_
          intro a W kst l0 h0 A0 hF hD
          have e0 : a.tmps[0]?.getD undef = _ := (ev a 0).symm.trans (hF 0 (by kernel_rfl))
          clear hF hD
          go_simp
        · refine chain_is _ (.inl rfl) ⟨_, rfl⟩ (by kernel_rfl) rfl ?_
          intro a W kst l0 h0 A0 hF hD
          have e31 : a.tmps[31]?.getD undef = .string b := (ev a 31).symm.trans (hD _ (Array.mem_of_getElem? (i := 0) rfl) rfl)
          clear hF hD
          have := HB1.out
          go_simp
          intros
          omega
        · refine chain_is _ (.inl rfl) ⟨_, rfl⟩ (by kernel_rfl) rfl ?_
          intro a W kst l0 h0 A0 hF hD
          have e32 : a.tmps[32]?.getD undef = .int .u8 y1 := (ev a 32).symm.trans (hD _ (Array.mem_of_getElem? (i := 0) rfl) rfl)
          clear hF hD
          go_simp
          exact IntWalk.i64_in _ (by omega)
        · refine chain_is _ (.inl rfl) ⟨_, rfl⟩ (by kernel_rfl) rfl ?_
          intro a W kst l0 h0 A0 hF hD
          have e0 : a.tmps[0]?.getD undef = _ := (ev a 0).symm.trans (hF 0 (by kernel_rfl))
          clear hF hD
          go_simp
        · refine chain_is _ (.inl rfl) ⟨_, rfl⟩ (by kernel_rfl) rfl ?_
          intro a W kst l0 h0 A0 hF hD
          have e4 : a.tmps[4]?.getD undef = _ := (ev a 4).symm.trans (hF 4 (by kernel_rfl))
          clear hF hD
          go_simp
        · refine chain_is _ (.inl rfl) ⟨_, rfl⟩ (by kernel_rfl) rfl ?_
          intro a W kst l0 h0 A0 hF hD
          have e34 : a.tmps[34]?.getD undef = .string b := (ev a 34).symm.trans (hD _ (Array.mem_of_getElem? (i := 0) rfl) rfl)
          have e35 : a.tmps[35]?.getD undef = .int .i64 j := (ev a 35).symm.trans (hD _ (Array.mem_of_getElem? (i := 1) rfl) rfl)
          clear hF hD
          have := HX.out
          go_simp
        · refine chain_is _ (.inl rfl) ⟨_, rfl⟩ (by kernel_rfl) rfl ?_
          intro a W kst l0 h0 A0 hF hD
          have e30 : a.tmps[30]?.getD undef = .int .i64 y0 := (ev a 30).symm.trans (hD _ (Array.mem_of_getElem? (i := 0) rfl) rfl)
          have e33 : a.tmps[33]?.getD undef = .int .i64 y1 := (ev a 33).symm.trans (hD _ (Array.mem_of_getElem? (i := 1) rfl) rfl)
          have e36 : a.tmps[36]?.getD undef = .string X := (ev a 36).symm.trans (hD _ (Array.mem_of_getElem? (i := 2) rfl) rfl)
          clear hF hD
          go_simp
        · refine chain_run (.inl rfl) ⟨_, rfl⟩ (by kernel_rfl) ?_
          intro a W kst l0 h0 A0 hF hD
          have k0 : kst = 0 := Nat.le_antisymm h0 l0
          subst k0
          clear l0 h0
          clear hF hD
          have hu : Upd [] w1 W := A0
          exact ⟨.pointer (some ⟨W.heap.size, 0, none⟩), W.alloc (.cells #[Value.int IntKind.i64 0, Value.int IntKind.i64 0, Value.slice none 0 0, Value.string ⟨#[]⟩] 24), by (go_simp; first | done | rfl), trivial, hu.alloc _, W.heap.size, hu.size, rfl, Blk.new _ _ _⟩
        · refine chain_set (.inl rfl) rfl (by kernel_rfl) trivial ?_
          intro a W kst l0 h0 A0 hF hD
          have k0 : kst = 1 := Nat.le_antisymm h0 l0
          subst k0
          clear l0 h0
          have e37 : a.tmps[37]?.getD undef = .agg #[.int .i64 y0, .int .i64 y1, .slice none 0 0, .string X] := (ev a 37).symm.trans (hD _ (Array.mem_of_getElem? (i := 1) rfl) rfl)
          clear hF hD
          obtain ⟨hu, g, hg, hp, hbk⟩ := A0
          have e5 : a.tmps[5]?.getD undef = _ := (ev a 5).symm.trans hp
          have s0 := hbk.cell 0
          have s1 := hbk.cell 1
          have s2 := hbk.cell 2
          have s3 := hbk.cell 3
          have f0 := hbk.frozen 0
          have f1 := hbk.frozen 1
          have f2 := hbk.frozen 2
          have f3 := hbk.frozen 3
          have hlt := hbk.lt
          simp only [List.size_toArray, List.length_cons, List.length_nil, List.getElem?_toArray, List.getElem?_cons_zero, List.getElem?_cons_succ] at s0 s1 s2 s3
          refine ⟨_, by (go_simp; first | done | rfl), ((((hu.setCell _ (.inr hg)).setCell _ (.inr hg)).setCell _ (.inr hg)).setCell _ (.inr hg)), g, hg, hp, (((hbk.set_ 0 _).set_ 1 _).set_ 2 _).set_ 3 _⟩
      intro vals W hv hA
      have v0 : vals 0 = .string b := hv 0 (by decide)
      have v1 : vals 1 = .int .u8 y0 := hv 1 (by decide)
      have v2 : vals 2 = .int .i64 y0 := hv 2 (by decide)
      have v3 : vals 3 = .string b := hv 3 (by decide)
      have v4 : vals 4 = .int .u8 y1 := hv 4 (by decide)
      have v5 : vals 5 = .int .i64 y1 := hv 5 (by decide)
      have v6 : vals 6 = .string b := hv 6 (by decide)
      have v7 : vals 7 = .int .i64 j := hv 7 (by decide)
      have v8 : vals 8 = .string X := hv 8 (by decide)
      have v9 : vals 9 = .agg #[.int .i64 y0, .int .i64 y1, .slice none 0 0, .string X] := hv 9 (by decide)
      clear hv
      obtain ⟨hu, g, hg, v10, hbk⟩ := hA
      simp only [putAll, Act.put, Nat.zero_add, Nat.reduceAdd, v10, v0, v1, v2, v3, v4, v5, v6, v7, v8, v9, List.setIfInBounds_toArray, List.set_cons_zero, List.set_cons_succ]
      clear v0 v1 v2 v3 v4 v5 v6 v7 v8 v9
      clear v10
      have hzlt := HBZ.out.lt
      have hgl : w.heap.size < g := by omega
      have HBK := Lib.hid hbk
      have HRS := Lib.hid (HBZ.out.upd hu (by simp))
      have HUX := Lib.hid (HU0.out.trans hu)
      have d0 := hbk.cell 0
      have d1 := hbk.cell 1
      have d2 := hbk.cell 2
      have d3 := hbk.cell 3
      have z0 := HRS.out.cell 0
      have z1 := HRS.out.cell 1
      have z2 := HRS.out.cell 2
      have z3 := HRS.out.cell 3
      have g0 := HRS.out.frozen 0
      have g1 := HRS.out.frozen 1
      have g2 := HRS.out.frozen 2
      have g3 := HRS.out.frozen 3
      have glt := HRS.out.lt
      simp only [List.size_toArray, List.length_cons, List.length_nil, List.getElem?_toArray, List.getElem?_cons_zero, List.getElem?_cons_succ] at d0 d1 d2 d3 z0 z1 z2 z3
      clear hu hbk
      go_wp2_with (go_at_call 33; refine (rconf_any _ _).mono ?_; rintro e w9 ⟨rfl, rfl⟩; rw [HC.out])
      refine (rgetOptions_any X HXS.out _).mono ?_
      rintro e w9 ⟨v9, o9, rfl, ho9, hf9, hu9⟩
      rw [HY.out] at ho9
      rw [HY.out]
      simp only at ho9 ⊢
      obtain ⟨a9, c9, hv9, -, -⟩ := ho9.shape
      subst hv9
      obtain ⟨n9, hn9⟩ : ∃ x, x = Y0.length := ⟨_, rfl⟩
      rw [← hn9] at ho9
      rw [← hn9]
      have HN9 := Lib.hid hn9
      have gb := HBK.out.upd hu9 (by simp)
      have rb := HRS.out.upd hu9 (by simp)
      have gn : g ∉ o9 := ho9.ne_blk gb (by decide)
      have rn : w.heap.size ∉ o9 := ho9.ne_blk rb (by decide)
      have HO9 := Lib.hid ho9
      have HF9 := Lib.hid (fun y hy => Nat.le_trans HUX.out.size (hf9 y hy))
      have HU9 := Lib.hid (HUX.out.trans hu9)
      have hgw : w.heap.size ≤ g := by omega
      clear d0 d1 d2 d3 z0 z1 z2 z3 g0 g1 g2 g3 glt hn9 ho9 hf9 hu9
      have d0 := gb.cell 0
      have d1 := gb.cell 1
      have d2 := gb.cell 2
      have d3 := gb.cell 3
      have k2 := gb.frozen 2
      have k3 := gb.frozen 3
      have z0 := rb.cell 0
      have z1 := rb.cell 1
      have z2 := rb.cell 2
      have z3 := rb.cell 3
      have g0 := rb.frozen 0
      have g1 := rb.frozen 1
      have g2 := rb.frozen 2
      have g3 := rb.frozen 3
      have hgne : w.heap.size ≠ g := by omega
      have hgne2 : g ≠ w.heap.size := by omega
      simp only [List.size_toArray, List.length_cons, List.length_nil, List.getElem?_toArray, List.getElem?_cons_zero, List.getElem?_cons_succ] at d0 d1 d2 d3 z0 z1 z2 z3
      clear gb rb
      go_wp2_with fail
      rw [HP.out]
      refine bodyPost_ret (v := .tuple #[Pk.val ⟨y0, y1, Y0, ⟨#[]⟩⟩ (.slice a9 n9 c9), .int .i64 0]) (by simp [results, Tryz.results12, go_sem, Pk.val, z0, z1, z2, z3]) rfl ⟨_, o9, rfl, ?_, HF9.out, ?_⟩
      · simp only
        rw [← HN9.out]
        exact (((((HO9.out.setCell _ gn).setCell _ gn).setCell _ rn).setCell _ rn).setCell _ rn).setCell _ rn
      · exact (((((HU9.out.setCell _ (.inr hgw)).setCell _ (.inr hgw)).setCell _ (.inr (Nat.le_refl _))).setCell _ (.inr (Nat.le_refl _))).setCell _ (.inr (Nat.le_refl _))).setCell _ (.inr (Nat.le_refl _))
    · have HP : Hid (R = (Pk.zero, Y1)) := by
        have h := Pk.get_bad H1.out HC.out (by rw [hY]; exact ye)
        rw [hY] at h
        exact HR.out.trans h
      have ye' : (Y1 != 0) = true := by simpa using ye
      clear hY ye
      go_enter Tryz.func12, Tryz.ntmps12
      go_wp2_with (go_at_call 38; refine (rnum_any b 2 HB.out (by omega) _).mono ?_; rintro e w1 ⟨rfl, hu1⟩; rw [HJ.out]; have HU1 := Lib.hid hu1; have B1 := ((Blk.new w 24 #[Value.int IntKind.i64 0, Value.int IntKind.i64 0, Value.slice none 0 0, Value.string { data := #[] }]).upd hu1 (by simp)); have HBZ := Lib.hid B1; have s0 := B1.cell 0; have s1 := B1.cell 1; have s2 := B1.cell 2; have s3 := B1.cell 3; have f0 := B1.frozen 0; have f1 := B1.frozen 1; have f2 := B1.frozen 2; have f3 := B1.frozen 3; have hlt := B1.lt; clear hu1 B1; simp at s0 s1 s2 s3)
      have U0 : Upd [] w w1 := ((Upd.refl _ _).alloc _).trans HU1.out
      have HU0 := Lib.hid U0
      clear s0 s1 s2 s3 f0 f1 f2 f3 U0
      refine wp_region_chain [some (.string b), some (.int .u8 y0), some (.int .i64 y0), some (.string b), some (.int .u8 y1), some (.int .i64 y1), some (.string b), some (.int .i64 j), some (.string X), some (.agg #[.int .i64 y0, .int .i64 y1, .slice none 0 0, .string X]), none, none] [10,11] (newA w1 24 #[Value.int IntKind.i64 0, Value.int IntKind.i64 0, Value.slice none 0 0, Value.string ⟨#[]⟩] #[.int .i64 y0, .int .i64 y1, .slice none 0 0, .string X]) [(0, 1), (0, 1), (0, 1), (0, 1), (0, 1), (0, 1), (0, 1), (0, 1), (0, 1), (0, 1), (0, 0), (1, 1)] (by kernel_rfl) (by kernel_rfl) (by kernel_rfl) (by kernel_rfl) (by kernel_rfl) (by kernel_rfl) (((Upd.refl [] _).drew)) ?_ ?_
      · refine StepsC.cons ?_ (StepsC.cons ?_ (StepsC.cons ?_ (StepsC.cons ?_ (StepsC.cons ?_ (StepsC.cons ?_ (StepsC.cons ?_ (StepsC.cons ?_ (StepsC.cons ?_ (StepsC.cons ?_ (StepsC.cons ?_ (StepsC.cons ?_ StepsC.nil)))))))))))
        · refine chain_is _ (.inl rfl) ⟨_, rfl⟩ (by kernel_rfl) rfl ?_
          intro a W kst l0 h0 A0 hF hD
          have e0 : a.tmps[0]?.getD undef = _ := (ev a 0).symm.trans (hF 0 (by kernel_rfl))
          clear hF hD
          go_simp
        · refine chain_is _ (.inl rfl) ⟨_, rfl⟩ (by kernel_rfl) rfl ?_
          intro a W kst l0 h0 A0 hF hD
          have e28 : a.tmps[28]?.getD undef = .string b := (ev a 28).symm.trans (hD _ (Array.mem_of_getElem? (i := 0) rfl) rfl)
          clear hF hD
          have := HB0.out
          go_simp
          intro h
          subst h
          exact absurd (show (ByteArray.empty).size < 4 by decide) t1
        · refine chain_is _ (.inl rfl) ⟨_, rfl⟩ (by kernel_rfl) rfl ?_
          intro a W kst l0 h0 A0 hF hD
          have e29 : a.tmps[29]?.getD undef = .int .u8 y0 := (ev a 29).symm.trans (hD _ (Array.mem_of_getElem? (i := 0) rfl) rfl)
          clear hF hD
          go_simp
          exact IntWalk.i64_in _ (by omega)
        · refine chain_is _ (.inl rfl) ⟨_, rfl⟩ (by kernel_rfl) rfl ?_
          intro a W kst l0 h0 A0 hF hD
          have e0 : a.tmps[0]?.getD undef = _ := (ev a 0).symm.trans (hF 0 (by kernel_rfl))
          clear hF hD
          go_simp
        · refine chain_is _ (.inl rfl) ⟨_, rfl⟩ (by kernel_rfl) rfl ?_
          intro a W kst l0 h0 A0 hF hD
          have e31 : a.tmps[31]?.getD undef = .string b := (ev a 31).symm.trans (hD _ (Array.mem_of_getElem? (i := 0) rfl) rfl)
          clear hF hD
          have := HB1.out
          go_simp
          intros
          omega
        · refine chain_is _ (.inl rfl) ⟨_, rfl⟩ (by kernel_rfl) rfl ?_
          intro a W kst l0 h0 A0 hF hD
          have e32 : a.tmps[32]?.getD undef = .int .u8 y1 := (ev a 32).symm.trans (hD _ (Array.mem_of_getElem? (i := 0) rfl) rfl)
          clear hF hD
          go_simp
          exact IntWalk.i64_in _ (by omega)
        · refine chain_is _ (.inl rfl) ⟨_, rfl⟩ (by kernel_rfl) rfl ?_
          intro a W kst l0 h0 A0 hF hD
          have e0 : a.tmps[0]?.getD undef = _ := (ev a 0).symm.trans (hF 0 (by kernel_rfl))
          clear hF hD
          go_simp
        · refine chain_is _ (.inl rfl) ⟨_, rfl⟩ (by kernel_rfl) rfl ?_
          intro a W kst l0 h0 A0 hF hD
          have e4 : a.tmps[4]?.getD undef = _ := (ev a 4).symm.trans (hF 4 (by kernel_rfl))
          clear hF hD
          go_simp
        · refine chain_is _ (.inl rfl) ⟨_, rfl⟩ (by kernel_rfl) rfl ?_
          intro a W kst l0 h0 A0 hF hD
          have e34 : a.tmps[34]?.getD undef = .string b := (ev a 34).symm.trans (hD _ (Array.mem_of_getElem? (i := 0) rfl) rfl)
          have e35 : a.tmps[35]?.getD undef = .int .i64 j := (ev a 35).symm.trans (hD _ (Array.mem_of_getElem? (i := 1) rfl) rfl)
          clear hF hD
          have := HX.out
          go_simp
        · refine chain_is _ (.inl rfl) ⟨_, rfl⟩ (by kernel_rfl) rfl ?_
          intro a W kst l0 h0 A0 hF hD
          have e30 : a.tmps[30]?.getD undef = .int .i64 y0 := (ev a 30).symm.trans (hD _ (Array.mem_of_getElem? (i := 0) rfl) rfl)
          have e33 : a.tmps[33]?.getD undef = .int .i64 y1 := (ev a 33).symm.trans (hD _ (Array.mem_of_getElem? (i := 1) rfl) rfl)
          have e36 : a.tmps[36]?.getD undef = .string X := (ev a 36).symm.trans (hD _ (Array.mem_of_getElem? (i := 2) rfl) rfl)
          clear hF hD
          go_simp
        · refine chain_run (.inl rfl) ⟨_, rfl⟩ (by kernel_rfl) ?_
          intro a W kst l0 h0 A0 hF hD
          have k0 : kst = 0 := Nat.le_antisymm h0 l0
          subst k0
          clear l0 h0
          clear hF hD
          have hu : Upd [] w1 W := A0
          exact ⟨.pointer (some ⟨W.heap.size, 0, none⟩), W.alloc (.cells #[Value.int IntKind.i64 0, Value.int IntKind.i64 0, Value.slice none 0 0, Value.string ⟨#[]⟩] 24), by (go_simp; first | done | rfl), trivial, hu.alloc _, W.heap.size, hu.size, rfl, Blk.new _ _ _⟩
        · refine chain_set (.inl rfl) rfl (by kernel_rfl) trivial ?_
          intro a W kst l0 h0 A0 hF hD
          have k0 : kst = 1 := Nat.le_antisymm h0 l0
          subst k0
          clear l0 h0
          have e37 : a.tmps[37]?.getD undef = .agg #[.int .i64 y0, .int .i64 y1, .slice none 0 0, .string X] := (ev a 37).symm.trans (hD _ (Array.mem_of_getElem? (i := 1) rfl) rfl)
          clear hF hD
          obtain ⟨hu, g, hg, hp, hbk⟩ := A0
          have e5 : a.tmps[5]?.getD undef = _ := (ev a 5).symm.trans hp
          have s0 := hbk.cell 0
          have s1 := hbk.cell 1
          have s2 := hbk.cell 2
          have s3 := hbk.cell 3
          have f0 := hbk.frozen 0
          have f1 := hbk.frozen 1
          have f2 := hbk.frozen 2
          have f3 := hbk.frozen 3
          have hlt := hbk.lt
          simp only [List.size_toArray, List.length_cons, List.length_nil, List.getElem?_toArray, List.getElem?_cons_zero, List.getElem?_cons_succ] at s0 s1 s2 s3
          refine ⟨_, by (go_simp; first | done | rfl), ((((hu.setCell _ (.inr hg)).setCell _ (.inr hg)).setCell _ (.inr hg)).setCell _ (.inr hg)), g, hg, hp, (((hbk.set_ 0 _).set_ 1 _).set_ 2 _).set_ 3 _⟩
      intro vals W hv hA
      have v0 : vals 0 = .string b := hv 0 (by decide)
      have v1 : vals 1 = .int .u8 y0 := hv 1 (by decide)
      have v2 : vals 2 = .int .i64 y0 := hv 2 (by decide)
      have v3 : vals 3 = .string b := hv 3 (by decide)
      have v4 : vals 4 = .int .u8 y1 := hv 4 (by decide)
      have v5 : vals 5 = .int .i64 y1 := hv 5 (by decide)
      have v6 : vals 6 = .string b := hv 6 (by decide)
      have v7 : vals 7 = .int .i64 j := hv 7 (by decide)
      have v8 : vals 8 = .string X := hv 8 (by decide)
      have v9 : vals 9 = .agg #[.int .i64 y0, .int .i64 y1, .slice none 0 0, .string X] := hv 9 (by decide)
      clear hv
      obtain ⟨hu, g, hg, v10, hbk⟩ := hA
      simp only [putAll, Act.put, Nat.zero_add, Nat.reduceAdd, v10, v0, v1, v2, v3, v4, v5, v6, v7, v8, v9, List.setIfInBounds_toArray, List.set_cons_zero, List.set_cons_succ]
      clear v0 v1 v2 v3 v4 v5 v6 v7 v8 v9
      clear v10
      have hzlt := HBZ.out.lt
      have hgl : w.heap.size < g := by omega
      have HBK := Lib.hid hbk
      have HRS := Lib.hid (HBZ.out.upd hu (by simp))
      have HUX := Lib.hid (HU0.out.trans hu)
      have d0 := hbk.cell 0
      have d1 := hbk.cell 1
      have d2 := hbk.cell 2
      have d3 := hbk.cell 3
      have z0 := HRS.out.cell 0
      have z1 := HRS.out.cell 1
      have z2 := HRS.out.cell 2
      have z3 := HRS.out.cell 3
      have g0 := HRS.out.frozen 0
      have g1 := HRS.out.frozen 1
      have g2 := HRS.out.frozen 2
      have g3 := HRS.out.frozen 3
      have glt := HRS.out.lt
      simp only [List.size_toArray, List.length_cons, List.length_nil, List.getElem?_toArray, List.getElem?_cons_zero, List.getElem?_cons_succ] at d0 d1 d2 d3 z0 z1 z2 z3
      clear hu hbk
      go_wp2_with (go_at_call 33; refine (rconf_any _ _).mono ?_; rintro e w9 ⟨rfl, rfl⟩; rw [HC.out])
      refine (rgetOptions_any X HXS.out _).mono ?_
      rintro e w9 ⟨v9, o9, rfl, ho9, hf9, hu9⟩
      rw [HY.out]
      have rb := HRS.out.upd hu9 (by simp)
      have HU9 := Lib.hid (HUX.out.trans hu9)
      clear d0 d1 d2 d3 z0 z1 z2 z3 g0 g1 g2 g3 glt ho9 hf9 hu9
      have z0 := rb.cell 0
      have z1 := rb.cell 1
      have z2 := rb.cell 2
      have z3 := rb.cell 3
      have g0 := rb.frozen 0
      have g1 := rb.frozen 1
      have g2 := rb.frozen 2
      have g3 := rb.frozen 3
      simp only [List.size_toArray, List.length_cons, List.length_nil, List.getElem?_toArray, List.getElem?_cons_zero, List.getElem?_cons_succ] at z0 z1 z2 z3
      clear rb
      go_wp2_with fail
      rw [HP.out]
      exact bodyPost_ret (v := .tuple #[Pk.zero.val (.slice none 0 0), .int .i64 Y1]) (by simp [results, Tryz.results12, go_sem, Pk.zero, Pk.val, z0, z1, z2, z3]) rfl ⟨_, [], rfl, Own.nil _ _ _, by simp, (((HU9.out.setCell _ (.inr (Nat.le_refl _))).setCell _ (.inr (Nat.le_refl _))).setCell _ (.inr (Nat.le_refl _))).setCell _ (.inr (Nat.le_refl _))⟩
set_option maxHeartbeats 1000000 in
theorem rsameO_quiet (l : List Tg) (v u : Value) (w : World) (hl : Rd w 2 v l.length (l.flatMap bkCOptions)) (hm : Rd w 2 u l.length (l.flatMap bkCOptions)) :
    Calls Tryz.prog 26 #[v, u] w fun e w' => e = .returned (.bool true) ∧ ∃ x, w' = w.drewN x := by
  obtain ⟨ao, cap, rfl, h1, h2, -⟩ := id hl
  obtain ⟨bo, cbp, rfl, g1, g2, -⟩ := id hm
  obtain ⟨n, hn⟩ : ∃ n, n = l.length := ⟨_, rfl⟩
  rw [← hn] at h1 hl g1 hm
  rw [← hn]
  have HL := Lib.hid hl
  have HM := Lib.hid hm
  have HN := Lib.hid hn
  simp only [maxLen] at h2 g2
  clear hl hn hm
  go_enter Tryz.func26, Tryz.ntmps26
  go_wp2
  go_loopg [5] n (fun x s5 wr => ∃ k : Nat, k + x = n ∧ s5 = .int .i64 k ∧ ∃ x, wr = w.drewN x)
  case atStart => exact ⟨0, by omega, rfl, 0, rfl⟩
  case round =>
    obtain ⟨k, hk, rfl, nd, rfl⟩ := hrel
    by_cases t : k < n
    · obtain ⟨x, hx⟩ : ∃ x, l[k]? = some x := by
        have := HN.out
        exact ⟨_, List.getElem?_eq_getElem (by omega)⟩
      have hu : Upd [] w (w.drewN nd) := (Upd.refl _ _).drewN _
      obtain ⟨q, rfl, z0, zj⟩ := (HL.out.upd hu).at bkCOptions_len hx (by decide)
      have c0 := z0 _ rfl
      have c1 := zj 1 _ (by omega) rfl
      clear z0 zj
      obtain ⟨q', rfl, z0, zj⟩ := (HM.out.upd hu).at bkCOptions_len hx (by decide)
      have d0 := z0 _ rfl
      have d1 := zj 1 _ (by omega) rfl
      clear z0 zj
      simp only [World.cell?_drewN] at c0 d0 c1 d1
      clear hu hx
      go_wp2
      go_region
      go_wp2
      go_roundg (n - (k + 1))
      case rel => exact ⟨k + 1, by omega, by go_num, nd + 1, rfl⟩
      case measure => omega
    · obtain rfl : k = n := by omega
      go_wp2
      go_ret
      exact ⟨rfl, nd, rfl⟩

set_option maxHeartbeats 2000000 in
theorem samePackets_one {g1 g2 : Nat} {c i : Int} {v1 v2 : Value} {d : ByteArray} {o : List Tg} (w : World) (h1 : Blk w g1 24 #[.int .i64 c, .int .i64 i, v1, .string d]) (h2 : Blk w g2 24 #[.int .i64 c, .int .i64 i, v2, .string d])
    (r1 : Rd w 2 v1 o.length (o.flatMap bkCOptions)) (r2 : Rd w 2 v2 o.length (o.flatMap bkCOptions)) :
    Calls Tryz.prog 17 #[.slice (some ⟨g1, 0, none⟩) 1 1, .slice (some ⟨g2, 0, none⟩) 1 1] w fun e w' => e = .returned (.bool true) ∧ Upd [] w w' := by
  have H1 := Lib.hid h1
  have H2 := Lib.hid h2
  have R1 := Lib.hid r1
  have R2 := Lib.hid r2
  obtain ⟨a1, c1, rfl, -⟩ := id r1
  obtain ⟨a2, c2, rfl, -⟩ := id r2
  obtain ⟨n, hn⟩ : ∃ n, n = o.length := ⟨_, rfl⟩
  rw [← hn] at H1 H2 R1 R2
  have HN := Lib.hid hn
  clear h1 h2 r1 r2 hn
  go_enter Tryz.func17, Tryz.ntmps17
  go_wp2_with fail
  go_loopg [5] 1 (fun m s5 wr => ∃ k : Nat, k + m = 1 ∧ s5 = .int .i64 k ∧ Upd [] w wr)
  case atStart => exact ⟨0, by omega, rfl, Upd.refl _ _⟩
  case round =>
    obtain ⟨k, hk, rfl, hu⟩ := hrel
    have HU := Lib.hid hu
    by_cases t : k < 1
    · obtain rfl : k = 0 := by omega
      have b1 := H1.out.upd hu (by simp)
      have b2 := H2.out.upd hu (by simp)
      have x0 := b1.cell 0
      have x1 := b1.cell 1
      have x2 := b1.cell 2
      have x3 := b1.cell 3
      have y0 := b2.cell 0
      have y1 := b2.cell 1
      have y2 := b2.cell 2
      have y3 := b2.cell 3
      simp only [List.size_toArray, List.length_cons, List.length_nil, List.getElem?_toArray, List.getElem?_cons_zero, List.getElem?_cons_succ] at x0 x1 x2 x3 y0 y1 y2 y3
      have HS : Hid (∀ x, Calls Tryz.prog 26 #[.slice a1 n c1, .slice a2 n c2] (wr.drewN x) fun e w' => e = .returned (.bool true) ∧ ∃ m, w' = wr.drewN m) := fun x =>
        Calls.quiet_of (rsameO_quiet o _ _ _ (by have h5 := R1.out.upd (HU.out.drewN x); rw [HN.out] at h5 ⊢; exact h5) (by have h5 := R2.out.upd (HU.out.drewN x); rw [HN.out] at h5 ⊢; exact h5))
      clear hu b1 b2 t
      go_wp2_with fail
      go_quiet ((go_at_call 26; exact HS.out _))
      go_wp2_with fail
      go_roundg 0
      case rel => exact ⟨1, by omega, by go_num, HU.out.drewN _⟩
      case measure => omega
    · obtain rfl : k = 1 := by omega
      clear hu t
      go_wp2_with fail
      go_ret
      exact ⟨rfl, HU.out⟩
end Go.Proofs.YthkfgjmifoeljaaGreat
