/- The walk of msg.GetLoad at bytes that were laid, with numbers and without. -/
import Derived.Test.YteflpekokgdllaaDataG
namespace Go.Proofs.Yteflpekokgdllaa
open Go.RowKit
set_option linter.unusedSimpArgs false
set_option linter.unusedVariables false
set_option maxRecDepth 20000

set_option maxHeartbeats 2000000 in
theorem getLoad_seq_facts (t s ns nr : Int) (d : ByteArray) (h : (0 ≤ t ∧ t < 65536) ∧ (0 ≤ s ∧ s < 65536) ∧ (0 ≤ ns ∧ ns < 65536) ∧ (0 ≤ nr ∧ nr < 65536)) (hd : d.size ≤ 1460) (S : ByteArray) (hS : S = (⟨t, s, true, ns, nr, d⟩ : Ld).bytes) :
    S.size = d.size + 12 ∧ byte S 0 = 72 ∧ byte S 1 = 2 ∧ (num S 2 2 = (d.size : Int) + 12) ∧
    (num S 4 2 = t) ∧
    (num S 6 2 = s) ∧
    (num S 8 2 = ns) ∧
    (num S 10 2 = nr) ∧
    S.extract 12 (d.size + 12) = d := by
  have e : S = strOfNums [72, 2] ++ (wordsOf [(d.size : Int) + 12, t, s, ns, nr] ⟨#[]⟩ ++ d) := by rw [hS, ← ByteArray.append_assoc]; rfl
  have hw : (wordsOf [(d.size : Int) + 12, t, s, ns, nr] ⟨#[]⟩).size = 10 := by rw [wordsOfI_size]; rfl
  have hs : S.size = d.size + 12 := by rw [e, ByteArray.size_append, ByteArray.size_append, strOfNums_size, hw]; simp; omega
  refine ⟨hs, ?_, ?_, ?_, ?_, ?_, ?_, ?_, ?_⟩
  · rw [e, append_byte_l _ _ _ (by rw [strOfNums_size]; decide)]; decide
  · rw [e, append_byte_l _ _ _ (by rw [strOfNums_size]; decide)]; decide
  · have := num_words (strOfNums [72, 2]) d [(d.size : Int) + 12, t, s, ns, nr] 0 _ rfl (by omega)
    rw [strOfNums_size] at this
    rw [e]; exact this
  · have := num_words (strOfNums [72, 2]) d [(d.size : Int) + 12, t, s, ns, nr] 1 _ rfl (by omega)
    rw [strOfNums_size] at this
    rw [e]; exact this
  · have := num_words (strOfNums [72, 2]) d [(d.size : Int) + 12, t, s, ns, nr] 2 _ rfl (by omega)
    rw [strOfNums_size] at this
    rw [e]; exact this
  · have := num_words (strOfNums [72, 2]) d [(d.size : Int) + 12, t, s, ns, nr] 3 _ rfl (by omega)
    rw [strOfNums_size] at this
    rw [e]; exact this
  · have := num_words (strOfNums [72, 2]) d [(d.size : Int) + 12, t, s, ns, nr] 4 _ rfl (by omega)
    rw [strOfNums_size] at this
    rw [e]; exact this
  · rw [e, ← ByteArray.append_assoc]
    exact ByteArray.extract_append_eq_right (by rw [ByteArray.size_append, strOfNums_size, hw]; rfl) (by simp only [ByteArray.size_append, strOfNums_size, hw]; simp; omega)

set_option maxHeartbeats 4000000 in
theorem getLoad_seq (t s ns nr : Int) (d : ByteArray) (h : (0 ≤ t ∧ t < 65536) ∧ (0 ≤ s ∧ s < 65536) ∧ (0 ≤ ns ∧ ns < 65536) ∧ (0 ≤ nr ∧ nr < 65536)) (hd : d.size ≤ 1460) (w : World) :
    Calls Try.prog 20 #[.string (⟨t, s, true, ns, nr, d⟩ : Ld).bytes] w fun e w' => e = .returned (.tuple #[(⟨t, s, true, ns, nr, d⟩ : Ld).agg, .int .i64 0]) ∧ Upd [] w w' := by
  obtain ⟨S, hS⟩ : ∃ S, S = (⟨t, s, true, ns, nr, d⟩ : Ld).bytes := ⟨_, rfl⟩
  obtain ⟨hsz, hb0, hb1, hn2, hn4, hn6, hn8, hn10, hex⟩ := getLoad_seq_facts t s ns nr d h hd S hS
  rw [← hS]
  obtain ⟨n, hn⟩ : ∃ n : Nat, n = d.size + 12 := ⟨_, rfl⟩
  rw [← hn] at hsz hex
  have hn2' : num S 2 2 = (n : Int) := by rw [hn2, hn]; omega
  have p0 : 0 < S.size := by omega
  have p1 : 1 < S.size := by omega
  have q0 : ((S[0]'p0).toNat : Int) = 72 := by rw [byte_get S 0 p0]; exact hb0
  have q1 : ((S[1]'p1).toNat : Int) = 2 := by rw [byte_get S 1 p1]; exact hb1
  have HN : Hid (S.size ≤ maxLen ∧ 12 - 12 + 12 ≤ S.size) := by show _ ∧ _; simp only [maxLen]; omega
  have HN4 := Lib.hid hn4
  have HN6 := Lib.hid hn6
  have HN8 := Lib.hid hn8
  have HN10 := Lib.hid hn10
  have HN2 := Lib.hid hn2'
  have HEX := Lib.hid hex
  have HDZ := Lib.hid hd
  have hlo : 12 ≤ n ∧ n ≤ 12 + 1460 := by omega
  clear hS hb0 hb1 hn2 hn2' hex hn hd h hn4 hn6 hn8 hn10
  have ha : bits .and .u8 72 8 = 8 := by decide
  have B2 : Hid (Blk (w.alloc (.cells #[.int .i64 0, .int .i64 0, .bool false, .int .i64 0, .int .i64 0, .string ⟨#[]⟩] 45)) w.heap.size 45 #[.int .i64 0, .int .i64 0, .bool false, .int .i64 0, .int .i64 0, .string ⟨#[]⟩]) := Blk.new _ _ _
  have U2 : Hid (Upd [] w (w.alloc (.cells #[.int .i64 0, .int .i64 0, .bool false, .int .i64 0, .int .i64 0, .string ⟨#[]⟩] 45))) := (Upd.refl _ _).alloc _
  go_enter Try.func20, Try.ntmps20
  go_wp2_with fail
  refine (msgNum_any S 2 HN.out.1 (by have := HN.out.2; omega) _).mono ?_
  rintro e w1 ⟨rfl, rfl⟩
  rw [HN2.out]
  go_wp2_with fail
  generalize w.alloc (.cells #[.int .i64 0, .int .i64 0, .bool false, .int .i64 0, .int .i64 0, .string ⟨#[]⟩] 45) = wz at *
  have hpz : w.heap.size < wz.heap.size := B2.out.lt
  refine wp_region_chain [some (.string S), some (.int .i64 t), some (.string S), some (.int .i64 s), some (.bool true), some (.string S), some (.int .i64 12), some (.int .i64 n), some (.string d), some (.string d), some (.agg #[.int .i64 t, .int .i64 s, .bool true, .int .i64 0, .int .i64 0, .string d]), none, none] [11,12] (glA wz #[.int .i64 t, .int .i64 s, .bool true, .int .i64 0, .int .i64 0, .string d]) [(0, 1), (0, 1), (0, 1), (0, 1), (0, 1), (0, 1), (0, 1), (0, 1), (0, 1), (0, 1), (0, 1), (0, 0), (1, 1)] (by kernel_rfl) (by kernel_rfl) (by kernel_rfl) (by kernel_rfl) (by kernel_rfl) (by kernel_rfl) ((Upd.refl _ _).drew) ?_ ?_
  · refine StepsC.cons ?_ (StepsC.cons ?_ (StepsC.cons ?_ (StepsC.cons ?_ (StepsC.cons ?_ (StepsC.cons ?_ (StepsC.cons ?_ (StepsC.cons ?_ (StepsC.cons ?_ (StepsC.cons ?_ (StepsC.cons ?_ (StepsC.cons ?_ (StepsC.cons ?_ StepsC.nil))))))))))))
    · refine chain_is _ (.inl rfl) ⟨_, rfl⟩ (by kernel_rfl) rfl ?_
      intro a W kst l0 h0 A0 hF hD
      have e0 : a.tmps[0]?.getD undef = _ := (ev a 0).symm.trans (hF 0 (by kernel_rfl))
      clear hF hD
      go_simp
    · refine chain_beside _ (.inl rfl) ⟨_, rfl⟩ (by kernel_rfl) rfl ?_
      intro a W kst l0 h0 A0 hF hD
      have e47 : a.tmps[47]?.getD undef = .string S := (ev a 47).symm.trans (hD _ (Array.mem_of_getElem? (i := 0) rfl) rfl)
      clear hF hD
      refine ⟨_, _, by (go_simp; first | done | rfl | exact ⟨rfl, rfl⟩), ?_⟩
      refine (msgNum_any S 4 HN.out.1 (by have := HN.out.2; omega) _).mono ?_
      rintro e wq ⟨rfl, rfl⟩
      rw [HN4.out]
      exact ⟨rfl, A0⟩
    · refine chain_is _ (.inl rfl) ⟨_, rfl⟩ (by kernel_rfl) rfl ?_
      intro a W kst l0 h0 A0 hF hD
      have e0 : a.tmps[0]?.getD undef = _ := (ev a 0).symm.trans (hF 0 (by kernel_rfl))
      clear hF hD
      go_simp
    · refine chain_beside _ (.inl rfl) ⟨_, rfl⟩ (by kernel_rfl) rfl ?_
      intro a W kst l0 h0 A0 hF hD
      have e49 : a.tmps[49]?.getD undef = .string S := (ev a 49).symm.trans (hD _ (Array.mem_of_getElem? (i := 0) rfl) rfl)
      clear hF hD
      refine ⟨_, _, by (go_simp; first | done | rfl | exact ⟨rfl, rfl⟩), ?_⟩
      refine (msgNum_any S 6 HN.out.1 (by have := HN.out.2; omega) _).mono ?_
      rintro e wq ⟨rfl, rfl⟩
      rw [HN6.out]
      exact ⟨rfl, A0⟩
    · refine chain_is _ (.inl rfl) ⟨_, rfl⟩ (by kernel_rfl) rfl ?_
      intro a W kst l0 h0 A0 hF hD
      have e4 : a.tmps[4]?.getD undef = _ := (ev a 4).symm.trans (hF 4 (by kernel_rfl))
      clear hF hD
      go_simp
    · refine chain_is _ (.inl rfl) ⟨_, rfl⟩ (by kernel_rfl) rfl ?_
      intro a W kst l0 h0 A0 hF hD
      have e0 : a.tmps[0]?.getD undef = _ := (ev a 0).symm.trans (hF 0 (by kernel_rfl))
      clear hF hD
      go_simp
    · refine chain_is _ (.inl rfl) ⟨_, rfl⟩ (by kernel_rfl) rfl ?_
      intro a W kst l0 h0 A0 hF hD
      have e5 : a.tmps[5]?.getD undef = _ := (ev a 5).symm.trans (hF 5 (by kernel_rfl))
      clear hF hD
      go_simp
    · refine chain_is _ (.inl rfl) ⟨_, rfl⟩ (by kernel_rfl) rfl ?_
      intro a W kst l0 h0 A0 hF hD
      have e6 : a.tmps[6]?.getD undef = _ := (ev a 6).symm.trans (hF 6 (by kernel_rfl))
      clear hF hD
      go_simp
    · refine chain_is _ (.inl rfl) ⟨_, rfl⟩ (by kernel_rfl) rfl ?_
      intro a W kst l0 h0 A0 hF hD
      have e52 : a.tmps[52]?.getD undef = .string S := (ev a 52).symm.trans (hD _ (Array.mem_of_getElem? (i := 0) rfl) rfl)
      have e53 : a.tmps[53]?.getD undef = .int .i64 12 := (ev a 53).symm.trans (hD _ (Array.mem_of_getElem? (i := 1) rfl) rfl)
      have e54 : a.tmps[54]?.getD undef = .int .i64 n := (ev a 54).symm.trans (hD _ (Array.mem_of_getElem? (i := 2) rfl) rfl)
      clear hF hD
      have := HEX.out
      go_simp
    · refine chain_beside _ (.inl rfl) ⟨_, rfl⟩ (by kernel_rfl) rfl ?_
      intro a W kst l0 h0 A0 hF hD
      have e55 : a.tmps[55]?.getD undef = .string d := (ev a 55).symm.trans (hD _ (Array.mem_of_getElem? (i := 0) rfl) rfl)
      clear hF hD
      refine ⟨_, _, by (go_simp; first | done | rfl | exact ⟨rfl, rfl⟩), ?_⟩
      refine (clone_any d _ (by have := HDZ.out; omega)).mono ?_
      rintro e wq ⟨rfl, hu⟩
      exact ⟨rfl, glA_keep A0 hu⟩
    · refine chain_is _ (.inl rfl) ⟨_, rfl⟩ (by kernel_rfl) rfl ?_
      intro a W kst l0 h0 A0 hF hD
      have e48 : a.tmps[48]?.getD undef = .int .i64 t := (ev a 48).symm.trans (hD _ (Array.mem_of_getElem? (i := 0) rfl) rfl)
      have e50 : a.tmps[50]?.getD undef = .int .i64 s := (ev a 50).symm.trans (hD _ (Array.mem_of_getElem? (i := 1) rfl) rfl)
      have e51 : a.tmps[51]?.getD undef = .bool true := (ev a 51).symm.trans (hD _ (Array.mem_of_getElem? (i := 2) rfl) rfl)
      have e56 : a.tmps[56]?.getD undef = .string d := (ev a 56).symm.trans (hD _ (Array.mem_of_getElem? (i := 3) rfl) rfl)
      clear hF hD
      go_simp
    · refine chain_run (.inl rfl) ⟨_, rfl⟩ (by kernel_rfl) ?_
      intro a W kst l0 h0 A0 hF hD
      have k0 : kst = 0 := Nat.le_antisymm h0 l0
      subst k0
      clear l0 h0
      clear hF hD
      have hu : Upd [] wz W := A0
      exact ⟨.pointer (some ⟨W.heap.size, 0, none⟩), W.alloc (.cells #[.int .i64 0, .int .i64 0, .bool false, .int .i64 0, .int .i64 0, .string ⟨#[]⟩] 45), by go_simp, trivial, hu.alloc _, W.heap.size, hu.size, rfl, Blk.new _ _ _⟩
    · refine chain_set (.inl rfl) rfl (by kernel_rfl) trivial ?_
      intro a W kst l0 h0 A0 hF hD
      have k0 : kst = 1 := Nat.le_antisymm h0 l0
      subst k0
      clear l0 h0
      have e57 : a.tmps[57]?.getD undef = .agg #[.int .i64 t, .int .i64 s, .bool true, .int .i64 0, .int .i64 0, .string d] := (ev a 57).symm.trans (hD _ (Array.mem_of_getElem? (i := 1) rfl) rfl)
      clear hF hD
      obtain ⟨hu, g, hg1, hg2, hg3⟩ := A0
      have e7 : a.tmps[7]?.getD undef = _ := (ev a 7).symm.trans hg2
      have f0 := hg3.frozen 0
      have f1 := hg3.frozen 1
      have f2 := hg3.frozen 2
      have f3 := hg3.frozen 3
      have f4 := hg3.frozen 4
      have f5 := hg3.frozen 5
      have c0 := hg3.cell 0
      have c1 := hg3.cell 1
      have c2 := hg3.cell 2
      have c3 := hg3.cell 3
      have c4 := hg3.cell 4
      have c5 := hg3.cell 5
      simp at c0 c1 c2 c3 c4 c5
      exact ⟨(((((W.setCell ⟨g, 0, none⟩ (.int .i64 t)).setCell ⟨g, 1, none⟩ (.int .i64 s)).setCell ⟨g, 2, none⟩ (.bool true)).setCell ⟨g, 3, none⟩ (.int .i64 0)).setCell ⟨g, 4, none⟩ (.int .i64 0)).setCell ⟨g, 5, none⟩ (.string d), by (go_simp; first | done | rfl | exact ⟨rfl, rfl⟩), (((((hu.setCell _ (.inr hg1)).setCell _ (.inr hg1)).setCell _ (.inr hg1)).setCell _ (.inr hg1)).setCell _ (.inr hg1)).setCell _ (.inr hg1), g, hg1, hg2, (((((hg3.set_ 0 _).set_ 1 _).set_ 2 _).set_ 3 _).set_ 4 _).set_ 5 _⟩
  intro vals W hv hA
  have v0 : vals 0 = .string S := hv 0 (by decide)
  have v1 : vals 1 = .int .i64 t := hv 1 (by decide)
  have v2 : vals 2 = .string S := hv 2 (by decide)
  have v3 : vals 3 = .int .i64 s := hv 3 (by decide)
  have v4 : vals 4 = .bool true := hv 4 (by decide)
  have v5 : vals 5 = .string S := hv 5 (by decide)
  have v6 : vals 6 = .int .i64 12 := hv 6 (by decide)
  have v7 : vals 7 = .int .i64 n := hv 7 (by decide)
  have v8 : vals 8 = .string d := hv 8 (by decide)
  have v9 : vals 9 = .string d := hv 9 (by decide)
  have v10 : vals 10 = .agg #[.int .i64 t, .int .i64 s, .bool true, .int .i64 0, .int .i64 0, .string d] := hv 10 (by decide)
  clear hv
  obtain ⟨hu, g, hg1, hv11, hg3⟩ := hA
  have v11 : vals 11 = .pointer (some ⟨g, 0, none⟩) := hv11
  simp only [putAll, Act.put, Nat.zero_add, Nat.reduceAdd, v11, v0, v1, v2, v3, v4, v5, v6, v7, v8, v9, v10, List.setIfInBounds_toArray, List.set_cons_zero, List.set_cons_succ]
  clear v0 v1 v2 v3 v4 v5 v6 v7 v8 v9 v10
  have B7 := Lib.hid hg3
  have UW : Hid (Upd [] w W) := U2.out.trans hu
  have BR := Lib.hid (B2.out.upd hu (by simp))
  have hgw : w.heap.size < g := by omega
  have lg : g < W.heap.size := hg3.lt
  have lw : w.heap.size < W.heap.size := BR.out.lt
  clear hu hv11 v11 hg3
  go_wp2_with fail
  refine (msgNum_any S 8 HN.out.1 (by have := HN.out.2; omega) _).mono ?_
  rintro e w2 ⟨rfl, rfl⟩
  rw [HN8.out]
  go_wp2_with fail
  refine (msgNum_any S 10 HN.out.1 (by have := HN.out.2; omega) _).mono ?_
  rintro e w2 ⟨rfl, rfl⟩
  rw [HN10.out]
  have f0 := B7.out.frozen 0
  have f1 := B7.out.frozen 1
  have f2 := B7.out.frozen 2
  have f3 := B7.out.frozen 3
  have f4 := B7.out.frozen 4
  have f5 := B7.out.frozen 5
  have c0 := B7.out.cell 0
  have c1 := B7.out.cell 1
  have c2 := B7.out.cell 2
  have c3 := B7.out.cell 3
  have c4 := B7.out.cell 4
  have c5 := B7.out.cell 5
  simp at c0 c1 c2 c3 c4 c5
  have k0 := BR.out.frozen 0
  have k1 := BR.out.frozen 1
  have k2 := BR.out.frozen 2
  have k3 := BR.out.frozen 3
  have k4 := BR.out.frozen 4
  have k5 := BR.out.frozen 5
  have d0 := BR.out.cell 0
  have d1 := BR.out.cell 1
  have d2 := BR.out.cell 2
  have d3 := BR.out.cell 3
  have d4 := BR.out.cell 4
  have d5 := BR.out.cell 5
  simp at d0 d1 d2 d3 d4 d5
  go_wp2_with fail
  clear f0 f1 f2 f3 f4 f5 c0 c1 c2 c3 c4 c5 k0 k1 k2 k3 k4 k5 d0 d1 d2 d3 d4 d5
  have RR := ((((((((BR.out.far (p := ⟨g, 3, none⟩) (.int .i64 ns) (by simp; omega)).far (p := ⟨g, 4, none⟩) (.int .i64 nr) (by simp; omega)).set_ 0 (.int .i64 t)).set_ 1 (.int .i64 s)).set_ 2 (.bool true)).set_ 3 (.int .i64 ns)).set_ 4 (.int .i64 nr)).set_ 5 (.string d))
  have c0 := RR.cell 0
  have c1 := RR.cell 1
  have c2 := RR.cell 2
  have c3 := RR.cell 3
  have c4 := RR.cell 4
  have c5 := RR.cell 5
  simp at c0 c1 c2 c3 c4 c5
  have UU := (((((((UW.out.setCell (p := ⟨g, 3, none⟩) (.int .i64 ns) (.inr (by simp; omega))).setCell (p := ⟨g, 4, none⟩) (.int .i64 nr) (.inr (by simp; omega))).setCell (p := ⟨w.heap.size, 0, none⟩) (.int .i64 t) (.inr (Nat.le_refl _))).setCell (p := ⟨w.heap.size, 1, none⟩) (.int .i64 s) (.inr (Nat.le_refl _))).setCell (p := ⟨w.heap.size, 2, none⟩) (.bool true) (.inr (Nat.le_refl _))).setCell (p := ⟨w.heap.size, 3, none⟩) (.int .i64 ns) (.inr (Nat.le_refl _))).setCell (p := ⟨w.heap.size, 4, none⟩) (.int .i64 nr) (.inr (Nat.le_refl _))).setCell (p := ⟨w.heap.size, 5, none⟩) (.string d) (.inr (Nat.le_refl _))
  exact bodyPost_ret (v := .tuple #[.agg #[.int .i64 t, .int .i64 s, .bool true, .int .i64 ns, .int .i64 nr, .string d], .int .i64 0]) (by simp [results, Try.results20, go_sem, c0, c1, c2, c3, c4, c5]) rfl ⟨rfl, UU⟩

set_option maxHeartbeats 2000000 in
theorem getLoad_plain_facts (t s : Int) (d : ByteArray) (h : (0 ≤ t ∧ t < 65536) ∧ (0 ≤ s ∧ s < 65536)) (hd : d.size ≤ 1460) (S : ByteArray) (hS : S = (⟨t, s, false, 0, 0, d⟩ : Ld).bytes) :
    S.size = d.size + 8 ∧ byte S 0 = 64 ∧ byte S 1 = 2 ∧ (num S 2 2 = (d.size : Int) + 8) ∧
    (num S 4 2 = t) ∧
    (num S 6 2 = s) ∧
    S.extract 8 (d.size + 8) = d := by
  have e : S = strOfNums [64, 2] ++ (wordsOf [(d.size : Int) + 8, t, s] ⟨#[]⟩ ++ d) := by rw [hS, ← ByteArray.append_assoc]; rfl
  have hw : (wordsOf [(d.size : Int) + 8, t, s] ⟨#[]⟩).size = 6 := by rw [wordsOfI_size]; rfl
  have hs : S.size = d.size + 8 := by rw [e, ByteArray.size_append, ByteArray.size_append, strOfNums_size, hw]; simp; omega
  refine ⟨hs, ?_, ?_, ?_, ?_, ?_, ?_⟩
  · rw [e, append_byte_l _ _ _ (by rw [strOfNums_size]; decide)]; decide
  · rw [e, append_byte_l _ _ _ (by rw [strOfNums_size]; decide)]; decide
  · have := num_words (strOfNums [64, 2]) d [(d.size : Int) + 8, t, s] 0 _ rfl (by omega)
    rw [strOfNums_size] at this
    rw [e]; exact this
  · have := num_words (strOfNums [64, 2]) d [(d.size : Int) + 8, t, s] 1 _ rfl (by omega)
    rw [strOfNums_size] at this
    rw [e]; exact this
  · have := num_words (strOfNums [64, 2]) d [(d.size : Int) + 8, t, s] 2 _ rfl (by omega)
    rw [strOfNums_size] at this
    rw [e]; exact this
  · rw [e, ← ByteArray.append_assoc]
    exact ByteArray.extract_append_eq_right (by rw [ByteArray.size_append, strOfNums_size, hw]; rfl) (by simp only [ByteArray.size_append, strOfNums_size, hw]; simp; omega)

set_option maxHeartbeats 4000000 in
theorem getLoad_plain (t s : Int) (d : ByteArray) (h : (0 ≤ t ∧ t < 65536) ∧ (0 ≤ s ∧ s < 65536)) (hd : d.size ≤ 1460) (w : World) :
    Calls Try.prog 20 #[.string (⟨t, s, false, 0, 0, d⟩ : Ld).bytes] w fun e w' => e = .returned (.tuple #[(⟨t, s, false, 0, 0, d⟩ : Ld).agg, .int .i64 0]) ∧ Upd [] w w' := by
  obtain ⟨S, hS⟩ : ∃ S, S = (⟨t, s, false, 0, 0, d⟩ : Ld).bytes := ⟨_, rfl⟩
  obtain ⟨hsz, hb0, hb1, hn2, hn4, hn6, hex⟩ := getLoad_plain_facts t s d h hd S hS
  rw [← hS]
  obtain ⟨n, hn⟩ : ∃ n : Nat, n = d.size + 8 := ⟨_, rfl⟩
  rw [← hn] at hsz hex
  have hn2' : num S 2 2 = (n : Int) := by rw [hn2, hn]; omega
  have p0 : 0 < S.size := by omega
  have p1 : 1 < S.size := by omega
  have q0 : ((S[0]'p0).toNat : Int) = 64 := by rw [byte_get S 0 p0]; exact hb0
  have q1 : ((S[1]'p1).toNat : Int) = 2 := by rw [byte_get S 1 p1]; exact hb1
  have HN : Hid (S.size ≤ maxLen ∧ 12 - 12 + 8 ≤ S.size) := by show _ ∧ _; simp only [maxLen]; omega
  have HN4 := Lib.hid hn4
  have HN6 := Lib.hid hn6
  have HN2 := Lib.hid hn2'
  have HEX := Lib.hid hex
  have HDZ := Lib.hid hd
  have hlo : 8 ≤ n ∧ n ≤ 8 + 1460 := by omega
  clear hS hb0 hb1 hn2 hn2' hex hn hd h hn4 hn6
  have ha : bits .and .u8 64 8 = 0 := by decide
  have B2 : Hid (Blk (w.alloc (.cells #[.int .i64 0, .int .i64 0, .bool false, .int .i64 0, .int .i64 0, .string ⟨#[]⟩] 45)) w.heap.size 45 #[.int .i64 0, .int .i64 0, .bool false, .int .i64 0, .int .i64 0, .string ⟨#[]⟩]) := Blk.new _ _ _
  have U2 : Hid (Upd [] w (w.alloc (.cells #[.int .i64 0, .int .i64 0, .bool false, .int .i64 0, .int .i64 0, .string ⟨#[]⟩] 45))) := (Upd.refl _ _).alloc _
  go_enter Try.func20, Try.ntmps20
  go_wp2_with fail
  refine (msgNum_any S 2 HN.out.1 (by have := HN.out.2; omega) _).mono ?_
  rintro e w1 ⟨rfl, rfl⟩
  rw [HN2.out]
  go_wp2_with fail
  generalize w.alloc (.cells #[.int .i64 0, .int .i64 0, .bool false, .int .i64 0, .int .i64 0, .string ⟨#[]⟩] 45) = wz at *
  have hpz : w.heap.size < wz.heap.size := B2.out.lt
  refine wp_region_chain [some (.string S), some (.int .i64 t), some (.string S), some (.int .i64 s), some (.bool false), some (.string S), some (.int .i64 8), some (.int .i64 n), some (.string d), some (.string d), some (.agg #[.int .i64 t, .int .i64 s, .bool false, .int .i64 0, .int .i64 0, .string d]), none, none] [11,12] (glA wz #[.int .i64 t, .int .i64 s, .bool false, .int .i64 0, .int .i64 0, .string d]) [(0, 1), (0, 1), (0, 1), (0, 1), (0, 1), (0, 1), (0, 1), (0, 1), (0, 1), (0, 1), (0, 1), (0, 0), (1, 1)] (by kernel_rfl) (by kernel_rfl) (by kernel_rfl) (by kernel_rfl) (by kernel_rfl) (by kernel_rfl) ((Upd.refl _ _).drew) ?_ ?_
  · refine StepsC.cons ?_ (StepsC.cons ?_ (StepsC.cons ?_ (StepsC.cons ?_ (StepsC.cons ?_ (StepsC.cons ?_ (StepsC.cons ?_ (StepsC.cons ?_ (StepsC.cons ?_ (StepsC.cons ?_ (StepsC.cons ?_ (StepsC.cons ?_ (StepsC.cons ?_ StepsC.nil))))))))))))
    · refine chain_is _ (.inl rfl) ⟨_, rfl⟩ (by kernel_rfl) rfl ?_
      intro a W kst l0 h0 A0 hF hD
      have e0 : a.tmps[0]?.getD undef = _ := (ev a 0).symm.trans (hF 0 (by kernel_rfl))
      clear hF hD
      go_simp
    · refine chain_beside _ (.inl rfl) ⟨_, rfl⟩ (by kernel_rfl) rfl ?_
      intro a W kst l0 h0 A0 hF hD
      have e47 : a.tmps[47]?.getD undef = .string S := (ev a 47).symm.trans (hD _ (Array.mem_of_getElem? (i := 0) rfl) rfl)
      clear hF hD
      refine ⟨_, _, by (go_simp; first | done | rfl | exact ⟨rfl, rfl⟩), ?_⟩
      refine (msgNum_any S 4 HN.out.1 (by have := HN.out.2; omega) _).mono ?_
      rintro e wq ⟨rfl, rfl⟩
      rw [HN4.out]
      exact ⟨rfl, A0⟩
    · refine chain_is _ (.inl rfl) ⟨_, rfl⟩ (by kernel_rfl) rfl ?_
      intro a W kst l0 h0 A0 hF hD
      have e0 : a.tmps[0]?.getD undef = _ := (ev a 0).symm.trans (hF 0 (by kernel_rfl))
      clear hF hD
      go_simp
    · refine chain_beside _ (.inl rfl) ⟨_, rfl⟩ (by kernel_rfl) rfl ?_
      intro a W kst l0 h0 A0 hF hD
      have e49 : a.tmps[49]?.getD undef = .string S := (ev a 49).symm.trans (hD _ (Array.mem_of_getElem? (i := 0) rfl) rfl)
      clear hF hD
      refine ⟨_, _, by (go_simp; first | done | rfl | exact ⟨rfl, rfl⟩), ?_⟩
      refine (msgNum_any S 6 HN.out.1 (by have := HN.out.2; omega) _).mono ?_
      rintro e wq ⟨rfl, rfl⟩
      rw [HN6.out]
      exact ⟨rfl, A0⟩
    · refine chain_is _ (.inl rfl) ⟨_, rfl⟩ (by kernel_rfl) rfl ?_
      intro a W kst l0 h0 A0 hF hD
      have e4 : a.tmps[4]?.getD undef = _ := (ev a 4).symm.trans (hF 4 (by kernel_rfl))
      clear hF hD
      go_simp
    · refine chain_is _ (.inl rfl) ⟨_, rfl⟩ (by kernel_rfl) rfl ?_
      intro a W kst l0 h0 A0 hF hD
      have e0 : a.tmps[0]?.getD undef = _ := (ev a 0).symm.trans (hF 0 (by kernel_rfl))
      clear hF hD
      go_simp
    · refine chain_is _ (.inl rfl) ⟨_, rfl⟩ (by kernel_rfl) rfl ?_
      intro a W kst l0 h0 A0 hF hD
      have e5 : a.tmps[5]?.getD undef = _ := (ev a 5).symm.trans (hF 5 (by kernel_rfl))
      clear hF hD
      go_simp
    · refine chain_is _ (.inl rfl) ⟨_, rfl⟩ (by kernel_rfl) rfl ?_
      intro a W kst l0 h0 A0 hF hD
      have e6 : a.tmps[6]?.getD undef = _ := (ev a 6).symm.trans (hF 6 (by kernel_rfl))
      clear hF hD
      go_simp
    · refine chain_is _ (.inl rfl) ⟨_, rfl⟩ (by kernel_rfl) rfl ?_
      intro a W kst l0 h0 A0 hF hD
      have e52 : a.tmps[52]?.getD undef = .string S := (ev a 52).symm.trans (hD _ (Array.mem_of_getElem? (i := 0) rfl) rfl)
      have e53 : a.tmps[53]?.getD undef = .int .i64 8 := (ev a 53).symm.trans (hD _ (Array.mem_of_getElem? (i := 1) rfl) rfl)
      have e54 : a.tmps[54]?.getD undef = .int .i64 n := (ev a 54).symm.trans (hD _ (Array.mem_of_getElem? (i := 2) rfl) rfl)
      clear hF hD
      have := HEX.out
      go_simp
    · refine chain_beside _ (.inl rfl) ⟨_, rfl⟩ (by kernel_rfl) rfl ?_
      intro a W kst l0 h0 A0 hF hD
      have e55 : a.tmps[55]?.getD undef = .string d := (ev a 55).symm.trans (hD _ (Array.mem_of_getElem? (i := 0) rfl) rfl)
      clear hF hD
      refine ⟨_, _, by (go_simp; first | done | rfl | exact ⟨rfl, rfl⟩), ?_⟩
      refine (clone_any d _ (by have := HDZ.out; omega)).mono ?_
      rintro e wq ⟨rfl, hu⟩
      exact ⟨rfl, glA_keep A0 hu⟩
    · refine chain_is _ (.inl rfl) ⟨_, rfl⟩ (by kernel_rfl) rfl ?_
      intro a W kst l0 h0 A0 hF hD
      have e48 : a.tmps[48]?.getD undef = .int .i64 t := (ev a 48).symm.trans (hD _ (Array.mem_of_getElem? (i := 0) rfl) rfl)
      have e50 : a.tmps[50]?.getD undef = .int .i64 s := (ev a 50).symm.trans (hD _ (Array.mem_of_getElem? (i := 1) rfl) rfl)
      have e51 : a.tmps[51]?.getD undef = .bool false := (ev a 51).symm.trans (hD _ (Array.mem_of_getElem? (i := 2) rfl) rfl)
      have e56 : a.tmps[56]?.getD undef = .string d := (ev a 56).symm.trans (hD _ (Array.mem_of_getElem? (i := 3) rfl) rfl)
      clear hF hD
      go_simp
    · refine chain_run (.inl rfl) ⟨_, rfl⟩ (by kernel_rfl) ?_
      intro a W kst l0 h0 A0 hF hD
      have k0 : kst = 0 := Nat.le_antisymm h0 l0
      subst k0
      clear l0 h0
      clear hF hD
      have hu : Upd [] wz W := A0
      exact ⟨.pointer (some ⟨W.heap.size, 0, none⟩), W.alloc (.cells #[.int .i64 0, .int .i64 0, .bool false, .int .i64 0, .int .i64 0, .string ⟨#[]⟩] 45), by go_simp, trivial, hu.alloc _, W.heap.size, hu.size, rfl, Blk.new _ _ _⟩
    · refine chain_set (.inl rfl) rfl (by kernel_rfl) trivial ?_
      intro a W kst l0 h0 A0 hF hD
      have k0 : kst = 1 := Nat.le_antisymm h0 l0
      subst k0
      clear l0 h0
      have e57 : a.tmps[57]?.getD undef = .agg #[.int .i64 t, .int .i64 s, .bool false, .int .i64 0, .int .i64 0, .string d] := (ev a 57).symm.trans (hD _ (Array.mem_of_getElem? (i := 1) rfl) rfl)
      clear hF hD
      obtain ⟨hu, g, hg1, hg2, hg3⟩ := A0
      have e7 : a.tmps[7]?.getD undef = _ := (ev a 7).symm.trans hg2
      have f0 := hg3.frozen 0
      have f1 := hg3.frozen 1
      have f2 := hg3.frozen 2
      have f3 := hg3.frozen 3
      have f4 := hg3.frozen 4
      have f5 := hg3.frozen 5
      have c0 := hg3.cell 0
      have c1 := hg3.cell 1
      have c2 := hg3.cell 2
      have c3 := hg3.cell 3
      have c4 := hg3.cell 4
      have c5 := hg3.cell 5
      simp at c0 c1 c2 c3 c4 c5
      exact ⟨(((((W.setCell ⟨g, 0, none⟩ (.int .i64 t)).setCell ⟨g, 1, none⟩ (.int .i64 s)).setCell ⟨g, 2, none⟩ (.bool false)).setCell ⟨g, 3, none⟩ (.int .i64 0)).setCell ⟨g, 4, none⟩ (.int .i64 0)).setCell ⟨g, 5, none⟩ (.string d), by (go_simp; first | done | rfl | exact ⟨rfl, rfl⟩), (((((hu.setCell _ (.inr hg1)).setCell _ (.inr hg1)).setCell _ (.inr hg1)).setCell _ (.inr hg1)).setCell _ (.inr hg1)).setCell _ (.inr hg1), g, hg1, hg2, (((((hg3.set_ 0 _).set_ 1 _).set_ 2 _).set_ 3 _).set_ 4 _).set_ 5 _⟩
  intro vals W hv hA
  have v0 : vals 0 = .string S := hv 0 (by decide)
  have v1 : vals 1 = .int .i64 t := hv 1 (by decide)
  have v2 : vals 2 = .string S := hv 2 (by decide)
  have v3 : vals 3 = .int .i64 s := hv 3 (by decide)
  have v4 : vals 4 = .bool false := hv 4 (by decide)
  have v5 : vals 5 = .string S := hv 5 (by decide)
  have v6 : vals 6 = .int .i64 8 := hv 6 (by decide)
  have v7 : vals 7 = .int .i64 n := hv 7 (by decide)
  have v8 : vals 8 = .string d := hv 8 (by decide)
  have v9 : vals 9 = .string d := hv 9 (by decide)
  have v10 : vals 10 = .agg #[.int .i64 t, .int .i64 s, .bool false, .int .i64 0, .int .i64 0, .string d] := hv 10 (by decide)
  clear hv
  obtain ⟨hu, g, hg1, hv11, hg3⟩ := hA
  have v11 : vals 11 = .pointer (some ⟨g, 0, none⟩) := hv11
  simp only [putAll, Act.put, Nat.zero_add, Nat.reduceAdd, v11, v0, v1, v2, v3, v4, v5, v6, v7, v8, v9, v10, List.setIfInBounds_toArray, List.set_cons_zero, List.set_cons_succ]
  clear v0 v1 v2 v3 v4 v5 v6 v7 v8 v9 v10
  have B7 := Lib.hid hg3
  have UW : Hid (Upd [] w W) := U2.out.trans hu
  have BR := Lib.hid (B2.out.upd hu (by simp))
  have hgw : w.heap.size < g := by omega
  have lg : g < W.heap.size := hg3.lt
  have lw : w.heap.size < W.heap.size := BR.out.lt
  clear hu hv11 v11 hg3
  have f0 := B7.out.frozen 0
  have f1 := B7.out.frozen 1
  have f2 := B7.out.frozen 2
  have f3 := B7.out.frozen 3
  have f4 := B7.out.frozen 4
  have f5 := B7.out.frozen 5
  have c0 := B7.out.cell 0
  have c1 := B7.out.cell 1
  have c2 := B7.out.cell 2
  have c3 := B7.out.cell 3
  have c4 := B7.out.cell 4
  have c5 := B7.out.cell 5
  simp at c0 c1 c2 c3 c4 c5
  have k0 := BR.out.frozen 0
  have k1 := BR.out.frozen 1
  have k2 := BR.out.frozen 2
  have k3 := BR.out.frozen 3
  have k4 := BR.out.frozen 4
  have k5 := BR.out.frozen 5
  have d0 := BR.out.cell 0
  have d1 := BR.out.cell 1
  have d2 := BR.out.cell 2
  have d3 := BR.out.cell 3
  have d4 := BR.out.cell 4
  have d5 := BR.out.cell 5
  simp at d0 d1 d2 d3 d4 d5
  go_wp2_with fail
  clear f0 f1 f2 f3 f4 f5 c0 c1 c2 c3 c4 c5 k0 k1 k2 k3 k4 k5 d0 d1 d2 d3 d4 d5
  have RR := ((((((BR.out.set_ 0 (.int .i64 t)).set_ 1 (.int .i64 s)).set_ 2 (.bool false)).set_ 3 (.int .i64 0)).set_ 4 (.int .i64 0)).set_ 5 (.string d))
  have c0 := RR.cell 0
  have c1 := RR.cell 1
  have c2 := RR.cell 2
  have c3 := RR.cell 3
  have c4 := RR.cell 4
  have c5 := RR.cell 5
  simp at c0 c1 c2 c3 c4 c5
  have UU := (((((UW.out.setCell (p := ⟨w.heap.size, 0, none⟩) (.int .i64 t) (.inr (Nat.le_refl _))).setCell (p := ⟨w.heap.size, 1, none⟩) (.int .i64 s) (.inr (Nat.le_refl _))).setCell (p := ⟨w.heap.size, 2, none⟩) (.bool false) (.inr (Nat.le_refl _))).setCell (p := ⟨w.heap.size, 3, none⟩) (.int .i64 0) (.inr (Nat.le_refl _))).setCell (p := ⟨w.heap.size, 4, none⟩) (.int .i64 0) (.inr (Nat.le_refl _))).setCell (p := ⟨w.heap.size, 5, none⟩) (.string d) (.inr (Nat.le_refl _))
  exact bodyPost_ret (v := .tuple #[.agg #[.int .i64 t, .int .i64 s, .bool false, .int .i64 0, .int .i64 0, .string d], .int .i64 0]) (by simp [results, Try.results20, go_sem, c0, c1, c2, c3, c4, c5]) rfl ⟨rfl, UU⟩

theorem getLoad_way (x : Wy) (d : ByteArray) (hx : x.ok) (hd : d.size ≤ 1460) (w : World) :
    Calls Try.prog 20 #[.string (x.load d).bytes] w fun e w' => e = .returned (.tuple #[(x.load d).agg, .int .i64 0]) ∧ Upd [] w w' := by
  have h1 := hx.next
  have h2 := hx.tunnel
  have h3 := hx.session
  cases hq : x.seq with
  | true =>
    have e : x.load d = ⟨x.tunnel, x.session, true, x.next, 0, d⟩ := by simp [Wy.load, hq]
    rw [e]
    exact getLoad_seq _ _ _ _ d ⟨by omega, by omega, h1, by omega⟩ hd w
  | false =>
    have e : x.load d = ⟨x.tunnel, x.session, false, 0, 0, d⟩ := by simp [Wy.load, hq]
    rw [e]
    exact getLoad_plain _ _ d ⟨by omega, by omega⟩ hd w
end Go.Proofs.Yteflpekokgdllaa
