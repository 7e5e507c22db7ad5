/- The walks of the document's own answer to chapter 10: GetOptions, GetData, Get, Find, Value, SameOptions. -/
import Derived.Test.YthkfgjmifoeljaaGreatOptS
import Derived.Test.YthkfgjmifoeljaaGreatOptF
namespace Go.Proofs.YthkfgjmifoeljaaGreat
open Go.RowKit
set_option linter.unusedSimpArgs false
set_option linter.unusedVariables false
set_option maxRecDepth 100000

set_option maxHeartbeats 4000000 in
theorem rgetOptions_any (b : ByteArray) (hb : b.size ≤ 140737488355328) (w : World) :
    Calls Tryz.prog 19 #[.string b] w (GivesTgs (getOpts b) w) := by
  obtain ⟨i0, hi0, hz0, hz1, hz2⟩ := info_parts info_opt
  go_enter Tryz.func19, Tryz.ntmps19
  go_wp2
  go_loopg [0, 4, 5] b.size (fun m s0 s4 s5 wr => ∃ (M : Nat) (s : ByteArray) (out : List Tg) (ao : Option Addr) (cap : Nat) (own : List Nat), m = M ∧ s0 = .string s ∧ s4 = .slice ao out.length cap ∧ s.size ≤ M ∧ s.size ≤ b.size ∧ out.length ≤ 30 ∧
    Own wr 67 2 (.slice ao out.length cap) out.length (tgCells out) own ∧ (∀ k, k ∈ own → w.heap.size ≤ k) ∧ getOptFrom M s out = getOpts b ∧ Upd [] w wr)
  case atStart => exact ⟨b.size, b, [], none, 0, [], rfl, rfl, rfl, Nat.le_refl _, Nat.le_refl _, by simp, Own.nil _ _ _, by simp, rfl, Upd.refl _ _⟩
  case round =>
    obtain ⟨M, s, out, ao, cap, own, hM, rfl, rfl, hm, hsb, ho, hown, hin, hg, hu⟩ := hrel
    obtain ⟨n, hn⟩ : ∃ n, n = out.length := ⟨_, rfl⟩
    have HN := Lib.hid hn
    have HMM := Lib.hid hM
    clear hM
    by_cases t0 : s.size = 0
    · rw [getOptFrom_zero M s out t0] at hg
      have HG := Lib.hid hg
      have e0 : ¬ (0 : Int) < s.size := by omega
      have HO := Lib.hid hown
      have T0 := Lib.hid t0
      clear hg hown t0 hn
      go_wp2
      go_ret2
      rw [← HG.out]
      exact ⟨_, own, rfl, HO.out, hin, hu⟩
    rw [getOptFrom_step M s out hm t0] at hg
    have e0 : (0 : Int) < s.size := by omega
    by_cases t1 : s.size = 1
    · rw [if_pos t1] at hg
      have HG := Lib.hid hg
      have HO := Lib.hid hown
      have T0 := Lib.hid t0
      have q1 : ((s.size : Int) == 1) = true := by simp; omega
      clear hg hown hn t0 t1
      go_wp2_with fail
      go_ret2
      rw [← HG.out]
      exact ⟨_, [], rfl, Own.nil _ _ _, by simp, hu⟩
    rw [if_neg t1] at hg
    have q1 : ((s.size : Int) == 1) = false := by simp; omega
    have hs2 : 2 ≤ s.size := by omega
    have hb0 := byte_get s 0 (by omega)
    have hb1 := byte_get s 1 (by omega)
    have hy0 := byte_bd s 0
    have hy1 := byte_bd s 1
    rw [← hb0] at hy0 hg
    rw [← hb1] at hy1 hg
    have HB0 := Lib.hid hb0
    have HB1 := Lib.hid hb1
    clear t0 t1 hb0 hb1
    by_cases t2 : (s[0].toNat : Int) = 0
    · rw [if_pos (.inl t2)] at hg
      have HG := Lib.hid hg
      have HO := Lib.hid hown
      have q2 : ((s[0].toNat : Int) == 0) = true := by simpa using t2
      clear hg hown hn t2
      go_wp2_with fail
      go_ret2
      rw [← HG.out]
      exact ⟨_, [], rfl, Own.nil _ _ _, by simp, hu⟩
    have q2 : ((s[0].toNat : Int) == 0) = false := by simpa using t2
    by_cases t3 : (s[1].toNat : Int) < 2
    · rw [if_pos (.inr t3)] at hg
      have HG := Lib.hid hg
      have HO := Lib.hid hown
      clear hg hown hn t2
      go_wp2_with fail
      go_ret2
      rw [← HG.out]
      exact ⟨_, [], rfl, Own.nil _ _ _, by simp, hu⟩
    rw [if_neg (by omega)] at hg
    obtain ⟨j, hj⟩ : ∃ j : Nat, s[1].toNat = j := ⟨_, rfl⟩
    have HJ : Hid ((s[1].toNat : Int) = (j : Int)) := by show _ = _; rw [hj]
    have hwr : True → wrap64 (s[1].toNat : Int) = (j : Int) := fun _ => by rw [HJ.out]; exact IntWalk.wrap64_in _ (by omega)
    rw [hj] at hg hy1
    rw [Int.toNat_natCast] at hg
    have t3' : ¬ (j : Int) < 2 := by omega
    by_cases t4 : (s.size : Int) < (j : Int)
    · rw [if_pos t4] at hg
      have HG := Lib.hid hg
      have HO := Lib.hid hown
      clear hg hown hn t2 hj
      go_wp2_with fail
      go_ret2
      rw [← HG.out]
      exact ⟨_, [], rfl, Own.nil _ _ _, by simp, hu⟩
    rw [if_neg t4] at hg
    by_cases t5 : 30 ≤ out.length
    · rw [if_pos t5] at hg
      have HG := Lib.hid hg
      have HO := Lib.hid hown
      have t5' : (30 : Int) ≤ n := by omega
      rw [← hn]
      clear hg hown hn t2 hj
      go_wp2_with fail
      go_ret2
      rw [← HG.out]
      exact ⟨_, [], rfl, Own.nil _ _ _, by simp, hu⟩
    rw [if_neg t5] at hg
    have t5' : ¬ (30 : Int) ≤ n := by omega
    have HG := Lib.hid hg
    have HO := Lib.hid (hn ▸ hown)
    rw [← hn]
    clear hg hown hn t2 hj t5
    go_wp2_with fail
    clear hwr
    have hxs : (s.extract 2 j).size ≤ 281474976710656 := by rw [ByteArray.size_extract]; omega
    obtain ⟨X, hX⟩ : ∃ X, X = s.extract 2 j := ⟨_, rfl⟩
    rw [← hX] at hxs HG
    have HX := Lib.hid hX
    have HXS := Lib.hid hxs
    have HU := Lib.hid hu
    have hlt := HO.out.lt
    have HLT := Lib.hid hlt
    have HIN := Lib.hid hin
    obtain ⟨y, hy⟩ : ∃ y : Int, y = byte s 0 := ⟨_, rfl⟩
    have HY : Hid ((s[0].toNat : Int) = y) := by show _ = _; rw [hy]; exact HB0.out
    rw [HY.out] at HG
    have hyb : 0 ≤ y ∧ y < 256 := by rw [hy]; exact byte_bd s 0
    clear hX hxs hu hlt hin hy hy0 q2 t3
    refine wp_region_facts (.grow 9 10 67 2 wr.heap.size (.slice ao n cap) n (tgCells out) own (n + 1) (tgCells out ++ [.int .i64 y, .string X])) (HO.out) [.is (.slice ao n cap), .is (.string s), .is (.int .u8 y), .is (.int .i64 y), .is (.string s), .is (.int .i64 j), .is (.string X), .is (.agg #[.int .i64 y, .string X]), .made (wr.heap.size) (by exact HLT.out) 1 67 #[.int .i64 y, .string X], .any, .any] (by kernel_rfl) (by kernel_rfl) (by kernel_rfl) (by kernel_rfl) ?_ ?_
    · refine Steps.cons ?_ (Steps.cons ?_ (Steps.cons ?_ (Steps.cons ?_ (Steps.cons ?_ (Steps.cons ?_ (Steps.cons ?_ (Steps.cons ?_ (Steps.cons ?_ (Steps.cons ?_ (Steps.cons ?_ Steps.nil))))))))))
      · refine step_is _ rfl ⟨_, rfl⟩ rfl (fun _ _ => trivial) ?_
        intro a W hi hF hD
        have hu := hi.upd
        have e4 : a.tmps[4]?.getD undef = _ := (ev a 4).symm.trans (hF 4 (by kernel_rfl))
        clear hF hD
        go_simp
      · refine step_is _ rfl ⟨_, rfl⟩ rfl (fun _ _ => trivial) ?_
        intro a W hi hF hD
        have hu := hi.upd
        have e0 : a.tmps[0]?.getD undef = _ := (ev a 0).symm.trans (hF 0 (by kernel_rfl))
        clear hF hD
        go_simp
      · refine step_is _ rfl ⟨_, rfl⟩ rfl (fun _ _ => trivial) ?_
        intro a W hi hF hD
        have hu := hi.upd
        have e30 : a.tmps[30]?.getD undef = .string s := (ev a 30).symm.trans (hD _ (Array.mem_of_getElem? (i := 0) rfl) rfl).1
        clear hF hD
        have := HY.out
        go_simp
      · refine step_is _ rfl ⟨_, rfl⟩ rfl (fun _ _ => trivial) ?_
        intro a W hi hF hD
        have hu := hi.upd
        have e31 : a.tmps[31]?.getD undef = .int .u8 y := (ev a 31).symm.trans (hD _ (Array.mem_of_getElem? (i := 0) rfl) rfl).1
        clear hF hD
        go_simp
        exact IntWalk.i64_in _ (by omega)
      · refine step_is _ rfl ⟨_, rfl⟩ rfl (fun _ _ => trivial) ?_
        intro a W hi hF hD
        have hu := hi.upd
        have e0 : a.tmps[0]?.getD undef = _ := (ev a 0).symm.trans (hF 0 (by kernel_rfl))
        clear hF hD
        go_simp
      · refine step_is _ rfl ⟨_, rfl⟩ rfl (fun _ _ => trivial) ?_
        intro a W hi hF hD
        have hu := hi.upd
        have e5 : a.tmps[5]?.getD undef = _ := (ev a 5).symm.trans (hF 5 (by kernel_rfl))
        clear hF hD
        have hwr : True → wrap64 (s[1].toNat : Int) = (j : Int) := fun _ => by rw [HJ.out]; exact IntWalk.wrap64_in _ (by omega)
        go_simp
      · refine step_is _ rfl ⟨_, rfl⟩ rfl (fun _ _ => trivial) ?_
        intro a W hi hF hD
        have hu := hi.upd
        have e33 : a.tmps[33]?.getD undef = .string s := (ev a 33).symm.trans (hD _ (Array.mem_of_getElem? (i := 0) rfl) rfl).1
        have e34 : a.tmps[34]?.getD undef = .int .i64 j := (ev a 34).symm.trans (hD _ (Array.mem_of_getElem? (i := 1) rfl) rfl).1
        clear hF hD
        have := HX.out
        go_simp
      · refine step_is _ rfl ⟨_, rfl⟩ rfl (fun _ _ => trivial) ?_
        intro a W hi hF hD
        have hu := hi.upd
        have e32 : a.tmps[32]?.getD undef = .int .i64 y := (ev a 32).symm.trans (hD _ (Array.mem_of_getElem? (i := 0) rfl) rfl).1
        have e35 : a.tmps[35]?.getD undef = .string X := (ev a 35).symm.trans (hD _ (Array.mem_of_getElem? (i := 1) rfl) rfl).1
        clear hF hD
        go_simp
      · refine step_run rfl (fun _ _ => trivial) ?_
        intro a W hi hF hD
        have hu := hi.upd
        have e36 : a.tmps[36]?.getD undef = .agg #[.int .i64 y, .string X] := (ev a 36).symm.trans (hD _ (Array.mem_of_getElem? (i := 0) rfl) rfl).1
        clear hF hD
        exact ⟨_, _, by (go_simp; first | done | rfl | exact ⟨rfl, rfl⟩), (Upd.refl _ _).alloc _, _, hu.size, rfl, Blk.new _ _ _⟩
      · refine step_gen rfl ⟨_, rfl⟩ ?_
        intro a W hi hF hD
        have hu := hi.upd
        have e29 : a.tmps[29]?.getD undef = .slice ao n cap := (ev a 29).symm.trans (hD _ (Array.mem_of_getElem? (i := 0) rfl) rfl).1
        obtain ⟨g37, _, e37, b37⟩ : ∃ g, wr.heap.size ≤ g ∧ a.eval (.tmp 37) = .slice (some ⟨g, 0, none⟩) 1 1 ∧ Blk W g 67 #[.int .i64 y, .string X] := (hD _ (Array.mem_of_getElem? (i := 1) rfl) rfl).1
        rw [ev] at e37
        clear hF hD
        obtain ⟨g, off, cap2, w2, own2, r1, r2, r3, r4, r5⟩ := run_append_keep (P := Tryz.prog) W 22 22 67 i0 _ 2 24 Tryz.underlying22 hi0 hz0 hz1 hz2 rfl (by decide) (.slice ao n cap) n (tgCells out) own hi.hold ⟨g37, 0, none⟩ 1 1 [.int .i64 y, .string X] rfl (World.news_of_block b37) (by simp [Value.oneCell']) (by decide) (by simp only [maxLen]; omega) (by omega)
        exact ⟨_, w2, exec_append rfl (by rw [ev]; exact e29) (by rw [ev]; exact e37) r1, Env.grow_set hu r4 r5 ⟨g, off, cap2, own2, rfl, r2, fun k hk => (r3 k hk).imp id (Nat.le_trans hu.size)⟩⟩
      · refine step_gen rfl ⟨_, rfl⟩ ?_
        intro a W hi hF hD
        have hu := hi.upd
        have d38 := (hD _ (Array.mem_of_getElem? (i := 0) rfl) rfl).2
        clear hF hD
        exact ⟨_, W, by (go_simp; first | done | rfl | exact ⟨rfl, rfl⟩), Env.grow_on hi (by rw [← ev]; exact d38)⟩
    intro vals W hu hv
    have v0 : vals 0 = .slice ao n cap := (hv 0 (by decide)).1
    have v1 : vals 1 = .string s := (hv 1 (by decide)).1
    have v2 : vals 2 = .int .u8 y := (hv 2 (by decide)).1
    have v3 : vals 3 = .int .i64 y := (hv 3 (by decide)).1
    have v4 : vals 4 = .string s := (hv 4 (by decide)).1
    have v5 : vals 5 = .int .i64 j := (hv 5 (by decide)).1
    have v6 : vals 6 = .string X := (hv 6 (by decide)).1
    have v7 : vals 7 = .agg #[.int .i64 y, .string X] := (hv 7 (by decide)).1
    obtain ⟨g8, _, v8, b8⟩ : ∃ g, wr.heap.size ≤ g ∧ vals 8 = .slice (some ⟨g, 0, none⟩) 1 1 ∧ Blk W g 67 #[.int .i64 y, .string X] := (hv 8 (by decide)).1
    have v9 := (hv 9 (by decide)).2
    have v10 := (hv 10 (by decide)).2
    clear hv
    obtain ⟨g, off, cap2, own2, q10, ho2, hin2⟩ := Env.grow_get 10 rfl v10
    simp only [putAll, Act.put, Nat.zero_add, Nat.reduceAdd, q10, v0, v1, v2, v3, v4, v5, v6, v7, v8, List.setIfInBounds_toArray, List.set_cons_zero, List.set_cons_succ]
    clear v0 v1 v2 v3 v4 v5 v6 v7 v8
    rw [q10] at ho2
    have HO2 := Lib.hid ho2
    have HIN2 := Lib.hid hin2
    have HU2 := Lib.hid (show Upd own wr W from hu)
    have hwz : w.heap.size ≤ wr.heap.size := HU.out.size
    have hwr : True → wrap64 (s[1].toNat : Int) = (j : Int) := fun _ => by rw [HJ.out]; exact IntWalk.wrap64_in _ (by omega)
    clear ho2 hin2 hu v9 v10 q10
    go_wp2
    go_roundg (M - 1)
    case rel =>
      have hin3 : ∀ k, k ∈ own2 → w.heap.size ≤ k := fun k hk => by
        rcases HIN2.out k hk with h | h
        · exact HIN.out k h
        · omega
      refine ⟨M - 1, s.extract j s.size, out ++ [⟨y, X⟩], some ⟨g, off, none⟩, cap2, own2, rfl, rfl, by rw [List.length_append, List.length_singleton, ← HN.out], by rw [ByteArray.size_extract]; omega, by rw [ByteArray.size_extract]; omega, by rw [List.length_append, List.length_singleton, ← HN.out]; omega, ?_, hin3, HG.out, ?_⟩
      · rw [List.length_append, List.length_singleton, ← HN.out, tgCells_snoc]; exact HO2.out
      · exact HU.out.trans' HU2.out (fun x hx => .inr (HIN.out x hx))
    case measure => have := HMM.out; omega
set_option maxHeartbeats 2000000 in
theorem rgetData_any (b : ByteArray) (hb : b.size ≤ maxLen) (w : World) :
    Calls Tryz.prog 16 #[.string b] w fun e w' => e = .returned (.tuple #[(Pk.ofData b).1.val (.slice none 0 0), .int .i64 (Pk.ofData b).2]) ∧ Upd [] w w' := by
  have HB := Lib.hid hb
  simp only [maxLen] at hb
  by_cases t1 : b.size < 4
  · have H1 : Hid (Pk.ofData b = (.zero, 5)) := if_pos t1
    rw [H1.out]
    go_enter Tryz.func16, Tryz.ntmps16
    go_wp2_with fail
    exact bodyPost_ret (v := .tuple #[Pk.zero.val (.slice none 0 0), .int .i64 5]) (by simp [results, Tryz.results16, go_sem, Pk.zero, Pk.val]) rfl ⟨rfl, (Upd.refl _ _).alloc _⟩
  have t1' : ¬ ((b.size : Int) < 4) := by omega
  have hN := num_bd b 2 2
  by_cases t2 : num b 2 2 < 4
  · have H1 : Hid (Pk.ofData b = (.zero, 4)) := by
      show _ = _
      rw [Pk.ofData, if_neg t1, if_pos t2]
    rw [H1.out]
    go_enter Tryz.func16, Tryz.ntmps16
    go_wp2_with (go_at_call 38; refine (rnum_any b 2 HB.out (by omega) _).mono ?_; rintro e w1 ⟨rfl, hu1⟩; have HU1 := Lib.hid hu1; have B1 := ((Blk.new w 24 #[Value.int IntKind.i64 0, Value.int IntKind.i64 0, Value.slice none 0 0, Value.string { data := #[] }]).upd hu1 (by simp)); have HB1 := Lib.hid B1; have s0 := B1.cell 0; have s1 := B1.cell 1; have s2 := B1.cell 2; have s3 := B1.cell 3; have f0 := B1.frozen 0; have f1 := B1.frozen 1; have f2 := B1.frozen 2; have f3 := B1.frozen 3; have hlt := B1.lt; clear hu1 B1; simp at s0 s1 s2 s3)
    exact bodyPost_ret (v := .tuple #[Pk.zero.val (.slice none 0 0), .int .i64 4]) (by simp [results, Tryz.results16, go_sem, Pk.zero, Pk.val, s0, s1, s2, s3]) rfl ⟨rfl, (((((((Upd.refl _ _).alloc _).trans HU1.out).setCell _ (.inr (Nat.le_refl _))).setCell _ (.inr (Nat.le_refl _))).setCell _ (.inr (Nat.le_refl _))).setCell _ (.inr (Nat.le_refl _)))⟩
  by_cases t3 : 1492 < num b 2 2
  · have H1 : Hid (Pk.ofData b = (.zero, 2)) := by
      show _ = _
      rw [Pk.ofData, if_neg t1, if_neg t2, if_pos t3]
    rw [H1.out]
    go_enter Tryz.func16, Tryz.ntmps16
    go_wp2_with (go_at_call 38; refine (rnum_any b 2 HB.out (by omega) _).mono ?_; rintro e w1 ⟨rfl, hu1⟩; have HU1 := Lib.hid hu1; have B1 := ((Blk.new w 24 #[Value.int IntKind.i64 0, Value.int IntKind.i64 0, Value.slice none 0 0, Value.string { data := #[] }]).upd hu1 (by simp)); have HB1 := Lib.hid B1; have s0 := B1.cell 0; have s1 := B1.cell 1; have s2 := B1.cell 2; have s3 := B1.cell 3; have f0 := B1.frozen 0; have f1 := B1.frozen 1; have f2 := B1.frozen 2; have f3 := B1.frozen 3; have hlt := B1.lt; clear hu1 B1; simp at s0 s1 s2 s3)
    exact bodyPost_ret (v := .tuple #[Pk.zero.val (.slice none 0 0), .int .i64 2]) (by simp [results, Tryz.results16, go_sem, Pk.zero, Pk.val, s0, s1, s2, s3]) rfl ⟨rfl, (((((((Upd.refl _ _).alloc _).trans HU1.out).setCell _ (.inr (Nat.le_refl _))).setCell _ (.inr (Nat.le_refl _))).setCell _ (.inr (Nat.le_refl _))).setCell _ (.inr (Nat.le_refl _)))⟩
  by_cases t4 : (b.size : Int) < num b 2 2
  · have H1 : Hid (Pk.ofData b = (.zero, 5)) := by
      show _ = _
      rw [Pk.ofData, if_neg t1, if_neg t2, if_neg t3, if_pos t4]
    rw [H1.out]
    go_enter Tryz.func16, Tryz.ntmps16
    go_wp2_with (go_at_call 38; refine (rnum_any b 2 HB.out (by omega) _).mono ?_; rintro e w1 ⟨rfl, hu1⟩; have HU1 := Lib.hid hu1; have B1 := ((Blk.new w 24 #[Value.int IntKind.i64 0, Value.int IntKind.i64 0, Value.slice none 0 0, Value.string { data := #[] }]).upd hu1 (by simp)); have HB1 := Lib.hid B1; have s0 := B1.cell 0; have s1 := B1.cell 1; have s2 := B1.cell 2; have s3 := B1.cell 3; have f0 := B1.frozen 0; have f1 := B1.frozen 1; have f2 := B1.frozen 2; have f3 := B1.frozen 3; have hlt := B1.lt; clear hu1 B1; simp at s0 s1 s2 s3)
    exact bodyPost_ret (v := .tuple #[Pk.zero.val (.slice none 0 0), .int .i64 5]) (by simp [results, Tryz.results16, go_sem, Pk.zero, Pk.val, s0, s1, s2, s3]) rfl ⟨rfl, (((((((Upd.refl _ _).alloc _).trans HU1.out).setCell _ (.inr (Nat.le_refl _))).setCell _ (.inr (Nat.le_refl _))).setCell _ (.inr (Nat.le_refl _))).setCell _ (.inr (Nat.le_refl _)))⟩
  obtain ⟨j, hj⟩ : ∃ j : Nat, num b 2 2 = j := Int.eq_ofNat_of_zero_le hN.1
  have H1 : Hid (Pk.ofData b = (⟨byte b 0, byte b 1, [], b.extract 4 j⟩, 0)) := by
    show _ = _
    rw [Pk.ofData, if_neg t1, if_neg t2, if_neg t3, if_neg t4, hj, Int.toNat_natCast]
  rw [H1.out]
  have HJ := Lib.hid hj
  rw [hj] at t2 t3 t4
  have hb0 := Lib.hid (byte_get b 0 (by omega))
  have hb1 := Lib.hid (byte_get b 1 (by omega))
  clear hN hj H1
  go_enter Tryz.func16, Tryz.ntmps16
  go_wp2_with (go_at_call 38; refine (rnum_any b 2 HB.out (by omega) _).mono ?_; rintro e w1 ⟨rfl, hu1⟩; rw [HJ.out]; have HU1 := Lib.hid hu1; have B1 := ((Blk.new w 24 #[Value.int IntKind.i64 0, Value.int IntKind.i64 0, Value.slice none 0 0, Value.string { data := #[] }]).upd hu1 (by simp)); have HB1 := Lib.hid B1; have s0 := B1.cell 0; have s1 := B1.cell 1; have s2 := B1.cell 2; have s3 := B1.cell 3; have f0 := B1.frozen 0; have f1 := B1.frozen 1; have f2 := B1.frozen 2; have f3 := B1.frozen 3; have hlt := B1.lt; clear hu1 B1; simp at s0 s1 s2 s3)
  have B0 := HB1.out
  have U0 : Upd [] w w1 := ((Upd.refl _ _).alloc _).trans HU1.out
  clear s0 s1 s2 s3 f0 f1 f2 f3
  refine wp_region_facts (.one 10 w.heap.size 24 4 #[.int .i64 (byte b 0), .int .i64 (byte b 1), .slice none 0 0, .string (b.extract 4 j)]) (⟨_, B0, rfl⟩) [.is (.string b), .is (.int .u8 (byte b 0)), .is (.int .i64 (byte b 0)), .is (.string b), .is (.int .u8 (byte b 1)), .is (.int .i64 (byte b 1)), .is (.string b), .is (.int .i64 j), .is (.string (b.extract 4 j)), .is (.agg #[.int .i64 (byte b 0), .int .i64 (byte b 1), .slice none 0 0, .string (b.extract 4 j)]), .any, .is (.int .i64 0)] (by kernel_rfl) (by kernel_rfl) (by kernel_rfl) (by kernel_rfl) ?_ ?_
  · refine Steps.cons ?_ (Steps.cons ?_ (Steps.cons ?_ (Steps.cons ?_ (Steps.cons ?_ (Steps.cons ?_ (Steps.cons ?_ (Steps.cons ?_ (Steps.cons ?_ (Steps.cons ?_ (Steps.cons ?_ (Steps.cons ?_ Steps.nil)))))))))))
    · refine step_is _ rfl ⟨_, rfl⟩ rfl (fun _ _ => trivial) ?_
      intro a W hi hF hD
      have hu := hi.upd
      have e0 : a.tmps[0]?.getD undef = _ := (ev a 0).symm.trans (hF 0 (by kernel_rfl))
      clear hF hD
      go_simp
    · refine step_is _ rfl ⟨_, rfl⟩ rfl (fun _ _ => trivial) ?_
      intro a W hi hF hD
      have hu := hi.upd
      have e25 : a.tmps[25]?.getD undef = .string b := (ev a 25).symm.trans (hD _ (Array.mem_of_getElem? (i := 0) rfl) rfl).1
      clear hF hD
      have := hb0.out
      go_simp
      intro h
      subst h
      exact absurd (show (ByteArray.empty).size < 4 by decide) t1
    · refine step_is _ rfl ⟨_, rfl⟩ rfl (fun _ _ => trivial) ?_
      intro a W hi hF hD
      have hu := hi.upd
      have e26 : a.tmps[26]?.getD undef = .int .u8 (byte b 0) := (ev a 26).symm.trans (hD _ (Array.mem_of_getElem? (i := 0) rfl) rfl).1
      clear hF hD
      have := byte_bd b 0
      go_simp
      exact IntWalk.i64_in _ (by omega)
    · refine step_is _ rfl ⟨_, rfl⟩ rfl (fun _ _ => trivial) ?_
      intro a W hi hF hD
      have hu := hi.upd
      have e0 : a.tmps[0]?.getD undef = _ := (ev a 0).symm.trans (hF 0 (by kernel_rfl))
      clear hF hD
      go_simp
    · refine step_is _ rfl ⟨_, rfl⟩ rfl (fun _ _ => trivial) ?_
      intro a W hi hF hD
      have hu := hi.upd
      have e28 : a.tmps[28]?.getD undef = .string b := (ev a 28).symm.trans (hD _ (Array.mem_of_getElem? (i := 0) rfl) rfl).1
      clear hF hD
      have := hb1.out
      go_simp
      intros
      omega
    · refine step_is _ rfl ⟨_, rfl⟩ rfl (fun _ _ => trivial) ?_
      intro a W hi hF hD
      have hu := hi.upd
      have e29 : a.tmps[29]?.getD undef = .int .u8 (byte b 1) := (ev a 29).symm.trans (hD _ (Array.mem_of_getElem? (i := 0) rfl) rfl).1
      clear hF hD
      have := byte_bd b 1
      go_simp
      exact IntWalk.i64_in _ (by omega)
    · refine step_is _ rfl ⟨_, rfl⟩ rfl (fun _ _ => trivial) ?_
      intro a W hi hF hD
      have hu := hi.upd
      have e0 : a.tmps[0]?.getD undef = _ := (ev a 0).symm.trans (hF 0 (by kernel_rfl))
      clear hF hD
      go_simp
    · refine step_is _ rfl ⟨_, rfl⟩ rfl (fun _ _ => trivial) ?_
      intro a W hi hF hD
      have hu := hi.upd
      have e4 : a.tmps[4]?.getD undef = _ := (ev a 4).symm.trans (hF 4 (by kernel_rfl))
      clear hF hD
      go_simp
    · refine step_is _ rfl ⟨_, rfl⟩ rfl (fun _ _ => trivial) ?_
      intro a W hi hF hD
      have hu := hi.upd
      have e31 : a.tmps[31]?.getD undef = .string b := (ev a 31).symm.trans (hD _ (Array.mem_of_getElem? (i := 0) rfl) rfl).1
      have e32 : a.tmps[32]?.getD undef = .int .i64 j := (ev a 32).symm.trans (hD _ (Array.mem_of_getElem? (i := 1) rfl) rfl).1
      clear hF hD
      go_simp
    · refine step_is _ rfl ⟨_, rfl⟩ rfl (fun _ _ => trivial) ?_
      intro a W hi hF hD
      have hu := hi.upd
      have e27 : a.tmps[27]?.getD undef = .int .i64 (byte b 0) := (ev a 27).symm.trans (hD _ (Array.mem_of_getElem? (i := 0) rfl) rfl).1
      have e30 : a.tmps[30]?.getD undef = .int .i64 (byte b 1) := (ev a 30).symm.trans (hD _ (Array.mem_of_getElem? (i := 1) rfl) rfl).1
      have e33 : a.tmps[33]?.getD undef = .string (b.extract 4 j) := (ev a 33).symm.trans (hD _ (Array.mem_of_getElem? (i := 2) rfl) rfl).1
      clear hF hD
      go_simp
    · refine step_set rfl rfl rfl ?_
      intro a W hi hF hD
      have hu := hi.upd
      have e34 : a.tmps[34]?.getD undef = .agg #[.int .i64 (byte b 0), .int .i64 (byte b 1), .slice none 0 0, .string (b.extract 4 j)] := (ev a 34).symm.trans (hD _ (Array.mem_of_getElem? (i := 0) rfl) rfl).1
      have e2 : a.tmps[2]?.getD undef = _ := (ev a 2).symm.trans (hF 2 (by kernel_rfl))
      clear hF hD
      obtain ⟨c, hB, hc⟩ := hi.hold
      obtain ⟨x, y, z, u, rfl⟩ := arr4 hc
      have s0 := hB.cell 0
      have s1 := hB.cell 1
      have s2 := hB.cell 2
      have s3 := hB.cell 3
      have f0 := hB.frozen 0
      have f1 := hB.frozen 1
      have f2 := hB.frozen 2
      have f3 := hB.frozen 3
      refine ⟨_, by (go_simp; rfl), Env.one_set ?_ ?_ rfl⟩
      · exact ((((Upd.refl _ _).setCell _ (.inl (by simp))).setCell _ (.inl (by simp))).setCell _ (.inl (by simp))).setCell _ (.inl (by simp))
      · exact (((hB.set_ 0 _).set_ 1 _).set_ 2 _).set_ 3 _
    · refine step_is _ rfl ⟨_, rfl⟩ rfl (fun _ _ => trivial) ?_
      intro a W hi hF hD
      have hu := hi.upd
      have k10 := (hD _ (Array.mem_of_getElem? (i := 0) rfl) rfl).2
      clear hF hD
      go_simp
  intro vals W hu hv
  have v0 : vals 0 = .string b := (hv 0 (by decide)).1
  have v1 : vals 1 = .int .u8 (byte b 0) := (hv 1 (by decide)).1
  have v2 : vals 2 = .int .i64 (byte b 0) := (hv 2 (by decide)).1
  have v3 : vals 3 = .string b := (hv 3 (by decide)).1
  have v4 : vals 4 = .int .u8 (byte b 1) := (hv 4 (by decide)).1
  have v5 : vals 5 = .int .i64 (byte b 1) := (hv 5 (by decide)).1
  have v6 : vals 6 = .string b := (hv 6 (by decide)).1
  have v7 : vals 7 = .int .i64 j := (hv 7 (by decide)).1
  have v8 : vals 8 = .string (b.extract 4 j) := (hv 8 (by decide)).1
  have v9 : vals 9 = .agg #[.int .i64 (byte b 0), .int .i64 (byte b 1), .slice none 0 0, .string (b.extract 4 j)] := (hv 9 (by decide)).1
  have v10 := (hv 10 (by decide)).2
  have v11 : vals 11 = .int .i64 0 := (hv 11 (by decide)).1
  clear hv
  simp only [putAll, Act.put, Nat.zero_add, Nat.reduceAdd, v0, v1, v2, v3, v4, v5, v6, v7, v8, v9, v11, List.setIfInBounds_toArray, List.set_cons_zero, List.set_cons_succ]
  clear v0 v1 v2 v3 v4 v5 v6 v7 v8 v9 v11
  have r0 := Blk.cell (show Blk W w.heap.size _ _ from v10) 0
  have r1 := Blk.cell (show Blk W w.heap.size _ _ from v10) 1
  have r2 := Blk.cell (show Blk W w.heap.size _ _ from v10) 2
  have r3 := Blk.cell (show Blk W w.heap.size _ _ from v10) 3
  simp at r0 r1 r2 r3
  have U1 : Upd [] w W := U0.trans' (show Upd [w.heap.size] w1 W from hu) (fun x hx => .inr (by simp at hx; omega))
  clear v10 hu
  go_wp2_with fail
  exact bodyPost_ret (v := .tuple #[Pk.val ⟨byte b 0, byte b 1, [], b.extract 4 j⟩ (.slice none 0 0), .int .i64 0]) (by simp [results, Tryz.results16, go_sem, Pk.val, r0, r1, r2, r3]) rfl ⟨rfl, U1⟩

set_option maxHeartbeats 1000000 in
theorem rfind_any (l : List Tg) (v : Value) (kind : Int) (w : World) (hl : TgsAt w v l) :
    Calls Tryz.prog 22 #[v, .int .i64 kind] w fun e w' => e = .returned (.tuple #[.string (findO kind l).1, .bool (findO kind l).2]) ∧ Upd [] w w' := by
  obtain ⟨r0, r1, hr⟩ : ∃ a b, findO kind l = (a, b) := ⟨_, _, rfl⟩
  rw [hr]
  have HR := Lib.hid hr
  clear hr
  obtain ⟨ao, cap, rfl, h1, h2, h3⟩ := id hl
  obtain ⟨n, hn⟩ : ∃ n, n = l.length := ⟨_, rfl⟩
  rw [← hn] at h1
  rw [← hn]
  have HL := Lib.hid hl
  have HN := Lib.hid hn
  simp only [maxLen] at h2
  clear h3 hl hn
  go_enter Tryz.func22, Tryz.ntmps22
  go_wp2_with fail
  go_loopg [6] n (fun m s6 wr => ∃ k : Nat, k + m = n ∧ s6 = .int .i64 k ∧ l.find? (kindIs kind) = (l.drop k).find? (kindIs kind) ∧ Upd [] w wr)
  case atStart => exact ⟨0, by omega, rfl, rfl, Upd.refl _ _⟩
  case round =>
    obtain ⟨k, hk, rfl, hf, hu⟩ := hrel
    by_cases t : k < n
    · obtain ⟨x, hx⟩ : ∃ x, l[k]? = some x := by
        have := HN.out
        exact ⟨_, List.getElem?_eq_getElem (by omega)⟩
      obtain ⟨ao', cap', e0, _, _, h3⟩ := HL.out.upd hu
      injection e0 with e0 _ e2
      subst e0 e2
      obtain ⟨q, rfl, c0, c1⟩ := h3 k x hx
      clear h3
      have hd : l.drop k = x :: l.drop (k + 1) := by
        obtain ⟨h5, h6⟩ := List.getElem?_eq_some_iff.1 hx
        rw [List.drop_eq_getElem_cons h5, h6]
      rw [hd, List.find?_cons] at hf
      have HU := Lib.hid hu
      clear hd hu hx
      by_cases t1 : x.k = kind
      · have t1' : (x.k == kind) = true := by simpa using t1
        have e1 : kindIs kind x = true := t1'
        rw [e1] at hf
        have h9 := HR.out
        rw [findO, hf] at h9
        injection h9 with h9 h10
        subst h9 h10
        clear hf e1 t1
        go_wp2_with fail
        go_ret2
        exact ⟨rfl, HU.out⟩
      · have t1' : (x.k == kind) = false := by simpa using t1
        have e1 : kindIs kind x = false := t1'
        rw [e1] at hf
        have HF := Lib.hid hf
        clear hf e1
        go_wp2_with fail
        go_roundg (n - (k + 1))
        case rel => exact ⟨k + 1, by omega, by go_num, HF.out, HU.out⟩
        case measure => omega
    · obtain rfl : k = n := by omega
      have hd : l.drop k = [] := by rw [HN.out]; simp
      rw [hd] at hf
      have h9 := HR.out
      rw [findO, hf] at h9
      simp only [List.find?_nil] at h9
      injection h9 with h9 h10
      subst h9 h10
      clear hf hd
      go_wp2_with fail
      go_ret2
      exact ⟨rfl, hu⟩

set_option maxHeartbeats 1000000 in
theorem rnumber_any (s : ByteArray) (hs : s.size ≤ 7) (w : World) :
    Calls Tryz.prog 43 #[.string s] w fun e w' => e = .returned (.int .i64 (num s 0 s.size)) ∧ w = w' := by
  obtain ⟨n, hn⟩ : ∃ n, n = s.size := ⟨_, rfl⟩
  have HN := Lib.hid hn
  go_enter Tryz.func43, Tryz.ntmps43
  go_wp2_with fail
  go_loopg [3, 4] n (fun m s3 s4 wr => ∃ (k : Nat) (x : Int), k + m = n ∧ s4 = .int .i64 k ∧ s3 = .int .i64 x ∧ x = num s 0 k ∧ wr = w)
  case atStart => exact ⟨0, 0, by omega, rfl, rfl, rfl, rfl⟩
  case round =>
    obtain ⟨k, x, hk, rfl, rfl, hx, rfl⟩ := hrel
    by_cases t : k < s.size
    · have hb := byte_get s k t
      have hbd := byte_bd s k
      have hnb := num_bd s 0 k
      have hp : (256 : Int) ^ k ≤ 281474976710656 := by
        rcases (by omega : k = 0 ∨ k = 1 ∨ k = 2 ∨ k = 3 ∨ k = 4 ∨ k = 5 ∨ k = 6) with h | h | h | h | h | h | h <;> rw [h] <;> decide
      have hx2 : 0 ≤ x ∧ x < 281474976710656 := by rw [hx]; exact ⟨hnb.1, Int.lt_of_lt_of_le hnb.2 hp⟩
      have HX : Hid (x * 256 + byte s k = num s 0 (k + 1)) := by show _ = _; rw [num, ← hx, Nat.zero_add]
      obtain ⟨y, hy⟩ : ∃ y, y = byte s k := ⟨_, rfl⟩
      rw [← hy] at hb hbd HX
      clear hx hp hnb hy
      go_wp2_with fail
      go_roundg (n - (k + 1))
      case rel => exact ⟨k + 1, _, by omega, by go_num, rfl, HX.out, rfl⟩
      case measure => omega
    · obtain rfl : k = s.size := by omega
      have HX := Lib.hid hx
      clear hx
      go_wp2_with fail
      go_ret
      exact ⟨by rw [HX.out]; rfl, rfl⟩
theorem rvalue_any (s : ByteArray) (hs : s.size ≤ maxLen) (w : World) :
    Calls Tryz.prog 24 #[.string s] w fun e w' => e = .returned (.tuple #[.int .i64 (valueB s).1, .bool (valueB s).2]) ∧ w = w' := by
  simp only [maxLen] at hs
  by_cases t1 : 7 < s.size
  · have HQ : Hid (valueB s = (0, false)) := if_pos t1
    have t1' : (7 : Int) < s.size := by omega
    rw [HQ.out]
    go_enter Tryz.func24, Tryz.ntmps24
    go_wp2_with fail
    go_ret2
    exact ⟨rfl, rfl⟩
  · have HQ : Hid (valueB s = (num s 0 s.size, true)) := if_neg t1
    have t1' : ¬ (7 : Int) < s.size := by omega
    rw [HQ.out]
    go_enter Tryz.func24, Tryz.ntmps24
    go_wp2_with (go_at_call 43; refine (rnumber_any s (by omega) _).mono ?_; rintro e w1 ⟨rfl, rfl⟩)
    go_ret2
    exact ⟨rfl, rfl⟩

set_option maxHeartbeats 1000000 in
theorem rsame_any (l m : List Tg) (v u : Value) (w : World) (hl : TgsAt w v l) (hm : TgsAt w u m) :
    Calls Tryz.prog 26 #[v, u] w fun e w' => e = .returned (.bool (decide (l = m))) ∧ Upd [] w w' := by
  obtain ⟨ao, cap, rfl, h1, h2, h3⟩ := id hl
  obtain ⟨bo, cbp, rfl, g1, g2, g3⟩ := id hm
  obtain ⟨n, hn⟩ : ∃ n, n = l.length := ⟨_, rfl⟩
  obtain ⟨j, hj⟩ : ∃ n, n = m.length := ⟨_, rfl⟩
  rw [← hn] at h1
  rw [← hj] at g1
  rw [← hn, ← hj]
  have HL := Lib.hid hl
  have HM := Lib.hid hm
  have HN := Lib.hid hn
  have HJ := Lib.hid hj
  simp only [maxLen] at h2 g2
  clear h3 g3 hl hn hm hj
  by_cases tn : n = j
  rotate_left
  · have hne : Hid (decide (l = m) = false) := by
      show _ = _
      rw [decide_eq_false_iff_not]
      rintro rfl
      exact tn (HN.out.trans HJ.out.symm)
    rw [hne.out]
    go_enter Tryz.func26, Tryz.ntmps26
    go_wp2
    go_ret
    exact ⟨rfl, Upd.refl _ _⟩
  subst tn
  go_enter Tryz.func26, Tryz.ntmps26
  go_wp2
  go_loopg [5] n (fun x s5 wr => ∃ k : Nat, k + x = n ∧ s5 = .int .i64 k ∧ l.take k = m.take k ∧ Upd [] w wr)
  case atStart => exact ⟨0, by omega, rfl, rfl, Upd.refl _ _⟩
  case round =>
    obtain ⟨k, hk, rfl, hp, hu⟩ := hrel
    by_cases t : k < n
    · obtain ⟨x, hx⟩ : ∃ x, l[k]? = some x := by
        have := HN.out
        exact ⟨_, List.getElem?_eq_getElem (by omega)⟩
      obtain ⟨y, hy⟩ : ∃ x, m[k]? = some x := by
        have := HJ.out
        exact ⟨_, List.getElem?_eq_getElem (by omega)⟩
      obtain ⟨ao', cap', e0, _, _, h3⟩ := HL.out.upd hu
      injection e0 with e0 _ e2
      subst e0 e2
      obtain ⟨q, rfl, c0, c1⟩ := h3 k x hx
      clear h3
      obtain ⟨ao', cap', e0, _, _, h3⟩ := HM.out.upd hu
      injection e0 with e0 _ e2
      subst e0 e2
      obtain ⟨q', rfl, d0, d1⟩ := h3 k y hy
      clear h3
      have HX := Lib.hid (And.intro hx (And.intro hy (And.intro hp hu)))
      clear hx hy hp hu
      go_wp2
      by_cases hk : x.k = y.k ∧ x.s.toList = y.s.toList
      · obtain ⟨hk1, hk2⟩ := hk
        go_region
        go_wp2
        go_roundg (n - (k + 1))
        case rel =>
          refine ⟨k + 1, by omega, by go_num, ?_, HX.out.2.2.2.drew⟩
          rw [List.take_add_one, List.take_add_one, HX.out.2.2.1, HX.out.1, HX.out.2.1]
          have : x = y := by
            cases x; cases y
            simp only [str_inj] at hk1 hk2
            rw [hk1, hk2]
          rw [this]
        case measure => omega
      · have he : Hid (decide (l = m) = false) := by
          show _ = _
          rw [decide_eq_false_iff_not]
          rintro rfl
          have := HX.out.1.symm.trans HX.out.2.1
          injection this with this
          subst this
          exact hk ⟨rfl, rfl⟩
        by_cases hk1 : x.k = y.k
        · have hk2 : ¬ x.s.toList = y.s.toList := fun h => hk ⟨hk1, h⟩
          clear hk
          go_region
          go_wp2
          go_ret
          rw [he.out]
          exact ⟨rfl, HX.out.2.2.2.drew⟩
        · clear hk
          go_region
          go_wp2
          go_ret
          rw [he.out]
          exact ⟨rfl, HX.out.2.2.2.drew⟩
    · obtain rfl : k = n := by omega
      have he : Hid (decide (l = m) = true) := by
        show _ = _
        rw [decide_eq_true_iff]
        have h7 := hp
        rw [List.take_of_length_le (by rw [← HN.out]; exact Nat.le_refl _), List.take_of_length_le (by rw [← HJ.out]; exact Nat.le_refl _)] at h7
        exact h7
      clear hp
      go_wp2
      go_ret
      rw [he.out]
      exact ⟨rfl, hu⟩
end Go.Proofs.YthkfgjmifoeljaaGreat
