/- The walk of opts.GetOptions. -/
import Derived.Test.YthkfgjmifoeljaaGreatOptB
import Derived.Test.YthkfgjmifoeljaaGreatApp
namespace Go.Proofs.YthkfgjmifoeljaaGreat
open Go.RowKit
set_option linter.unusedSimpArgs false
set_option linter.unusedVariables false
set_option maxRecDepth 20000

/-- What options' bytes tell, in m rounds at most. -/
def getOptFrom : Nat → ByteArray → List Tg → List Tg × Int
  | 0, _, out => (out, 0)
  | m + 1, b, out =>
    if b.size = 0 then (out, 0) else if b.size = 1 then ([], 5) else if byte b 0 = 0 ∨ byte b 1 < 2 then ([], 4) else if (b.size : Int) < byte b 1 then ([], 5)
    else if 30 ≤ out.length then ([], 2) else getOptFrom m (b.extract (byte b 1).toNat b.size) (out ++ [⟨byte b 0, b.extract 2 (byte b 1).toNat⟩])
def getOpts (b : ByteArray) : List Tg × Int := getOptFrom b.size b []
theorem getOptFrom_zero (m : Nat) (b : ByteArray) (out : List Tg) (h : b.size = 0) : getOptFrom m b out = (out, 0) := by
  cases m with
  | zero => rfl
  | succ m => rw [getOptFrom, if_pos h]
theorem getOptFrom_step (m : Nat) (b : ByteArray) (out : List Tg) (h0 : b.size ≤ m) (h : b.size ≠ 0) : getOptFrom m b out =
    if b.size = 1 then ([], 5) else if byte b 0 = 0 ∨ byte b 1 < 2 then ([], 4) else if (b.size : Int) < byte b 1 then ([], 5)
    else if 30 ≤ out.length then ([], 2) else getOptFrom (m - 1) (b.extract (byte b 1).toNat b.size) (out ++ [⟨byte b 0, b.extract 2 (byte b 1).toNat⟩]) := by
  cases m with
  | zero => omega
  | succ m => rw [getOptFrom, if_neg h]; rfl

/-- The call gives pairs and an error. -/
def GivesTgs (r : List Tg × Int) (w : World) (e : Ending) (w' : World) : Prop := ∃ v own, e = .returned (.tuple #[v, .int .i64 r.2]) ∧ Own w' 67 2 v r.1.length (tgCells r.1) own ∧ (∀ k, k ∈ own → w.heap.size ≤ k) ∧ Upd [] w w'
theorem info_opt : (Tryz.prog.info? 67).map (fun i => (i.zero, i.size, i.bytes)) = some (some (.agg #[.int .i64 0, .string ⟨#[]⟩]), 2, 24) := by kernel_rfl
theorem tgCells_snoc (l : List Tg) (t : Tg) : tgCells (l ++ [t]) = tgCells l ++ [.int .i64 t.k, .string t.s] := by simp [tgCells]

set_option maxHeartbeats 4000000 in
theorem getOptions_any (b : ByteArray) (hb : b.size ≤ 140737488355328) (w : World) :
    Calls Tryz.prog 18 #[.string b] w (GivesTgs (getOpts b) w) := by
  obtain ⟨i0, hi0, hz0, hz1, hz2⟩ := info_parts info_opt
  go_enter Tryz.func18, Tryz.ntmps18
  go_wp2
  go_loopg [0, 4, 5] b.size (fun m s0 s4 s5 wr => ∃ (M : Nat) (s : ByteArray) (out : List Tg) (ao : Option Addr) (cap : Nat) (own : List Nat), m = M ∧ s0 = .string s ∧ s4 = .slice ao out.length cap ∧ s.size ≤ M ∧ s.size ≤ b.size ∧ out.length ≤ 30 ∧
    Own wr 67 2 (.slice ao out.length cap) out.length (tgCells out) own ∧ (∀ k, k ∈ own → w.heap.size ≤ k) ∧ getOptFrom M s out = getOpts b ∧ Upd [] w wr)
  case atStart => exact ⟨b.size, b, [], none, 0, [], rfl, rfl, rfl, Nat.le_refl _, Nat.le_refl _, by simp, Own.nil _ _ _, by simp, rfl, Upd.refl _ _⟩
  case round =>
    obtain ⟨M, s, out, ao, cap, own, hM, rfl, rfl, hm, hsb, ho, hown, hin, hg, hu⟩ := hrel
    obtain ⟨n, hn⟩ : ∃ n, n = out.length := ⟨_, rfl⟩
    have HN := Lib.hid hn
    have HMM := Lib.hid hM
    clear hM
    by_cases t0 : s.size = 0
    · rw [getOptFrom_zero M s out t0] at hg
      have HG := Lib.hid hg
      have e0 := str_empty_t t0
      have HO := Lib.hid hown
      have T0 := Lib.hid t0
      clear hg hown t0 hn
      go_wp2
      go_ret2
      rw [← HG.out]
      exact ⟨_, own, rfl, HO.out, hin, hu⟩
    rw [getOptFrom_step M s out hm t0] at hg
    have e0 := str_empty_f t0
    by_cases t1 : s.size = 1
    · rw [if_pos t1] at hg
      have HG := Lib.hid hg
      have HO := Lib.hid hown
      have T0 := Lib.hid t0
      have q1 : ((s.size : Int) == 1) = true := by simp; omega
      clear hg hown hn t0 t1
      go_wp2_with fail
      go_ret2
      rw [← HG.out]
      exact ⟨_, [], rfl, Own.nil _ _ _, by simp, hu⟩
    rw [if_neg t1] at hg
    have q1 : ((s.size : Int) == 1) = false := by simp; omega
    have hs2 : 2 ≤ s.size := by omega
    have hb0 := byte_get s 0 (by omega)
    have hb1 := byte_get s 1 (by omega)
    have hy0 := byte_bd s 0
    have hy1 := byte_bd s 1
    rw [← hb0] at hy0 hg
    rw [← hb1] at hy1 hg
    have HB0 := Lib.hid hb0
    have HB1 := Lib.hid hb1
    clear t0 t1 hb0 hb1
    by_cases t2 : (s[0].toNat : Int) = 0
    · rw [if_pos (.inl t2)] at hg
      have HG := Lib.hid hg
      have HO := Lib.hid hown
      have q2 : ((s[0].toNat : Int) == 0) = true := by simpa using t2
      clear hg hown hn t2
      go_wp2_with fail
      go_ret2
      rw [← HG.out]
      exact ⟨_, [], rfl, Own.nil _ _ _, by simp, hu⟩
    have q2 : ((s[0].toNat : Int) == 0) = false := by simpa using t2
    by_cases t3 : (s[1].toNat : Int) < 2
    · rw [if_pos (.inr t3)] at hg
      have HG := Lib.hid hg
      have HO := Lib.hid hown
      clear hg hown hn t2
      go_wp2_with fail
      go_ret2
      rw [← HG.out]
      exact ⟨_, [], rfl, Own.nil _ _ _, by simp, hu⟩
    rw [if_neg (by omega)] at hg
    obtain ⟨j, hj⟩ : ∃ j : Nat, s[1].toNat = j := ⟨_, rfl⟩
    have HJ : Hid ((s[1].toNat : Int) = (j : Int)) := by show _ = _; rw [hj]
    have hwr : True → wrap64 (s[1].toNat : Int) = (j : Int) := fun _ => by rw [HJ.out]; exact IntWalk.wrap64_in _ (by omega)
    rw [hj] at hg hy1
    rw [Int.toNat_natCast] at hg
    have t3' : ¬ (j : Int) < 2 := by omega
    by_cases t4 : (s.size : Int) < (j : Int)
    · rw [if_pos t4] at hg
      have HG := Lib.hid hg
      have HO := Lib.hid hown
      clear hg hown hn t2 hj
      go_wp2_with fail
      go_ret2
      rw [← HG.out]
      exact ⟨_, [], rfl, Own.nil _ _ _, by simp, hu⟩
    rw [if_neg t4] at hg
    by_cases t5 : 30 ≤ out.length
    · rw [if_pos t5] at hg
      have HG := Lib.hid hg
      have HO := Lib.hid hown
      have t5' : (30 : Int) ≤ n := by omega
      rw [← hn]
      clear hg hown hn t2 hj
      go_wp2_with fail
      go_ret2
      rw [← HG.out]
      exact ⟨_, [], rfl, Own.nil _ _ _, by simp, hu⟩
    rw [if_neg t5] at hg
    have t5' : ¬ (30 : Int) ≤ n := by omega
    have HG := Lib.hid hg
    have HO := Lib.hid (hn ▸ hown)
    rw [← hn]
    clear hg hown hn t2 hj t5
    go_wp2_with fail
    clear hwr
    have hxs : (s.extract 2 j).size ≤ 281474976710656 := by rw [ByteArray.size_extract]; omega
    obtain ⟨X, hX⟩ : ∃ X, X = s.extract 2 j := ⟨_, rfl⟩
    rw [← hX] at hxs HG
    have HX := Lib.hid hX
    have HXS := Lib.hid hxs
    have HU := Lib.hid hu
    have hlt := HO.out.lt
    have HLT := Lib.hid hlt
    have HIN := Lib.hid hin
    obtain ⟨y, hy⟩ : ∃ y : Int, y = byte s 0 := ⟨_, rfl⟩
    have HY : Hid ((s[0].toNat : Int) = y) := by show _ = _; rw [hy]; exact HB0.out
    rw [HY.out] at HG
    have hyb : 0 ≤ y ∧ y < 256 := by rw [hy]; exact byte_bd s 0
    clear hX hxs hu hlt hin hy hy0 q2 t3
    refine wp_region_facts (.grow 10 11 67 2 wr.heap.size (.slice ao n cap) n (tgCells out) own (n + 1) (tgCells out ++ [.int .i64 y, .string X])) (HO.out) [.is (.slice ao n cap), .is (.string s), .is (.int .u8 y), .is (.int .i64 y), .is (.string s), .is (.int .i64 j), .is (.string X), .is (.string X), .is (.agg #[.int .i64 y, .string X]), .made (wr.heap.size) (by exact HLT.out) 1 67 #[.int .i64 y, .string X], .any, .any] (by kernel_rfl) (by kernel_rfl) (by kernel_rfl) (by kernel_rfl) ?_ ?_
    · refine Steps.cons ?_ (Steps.cons ?_ (Steps.cons ?_ (Steps.cons ?_ (Steps.cons ?_ (Steps.cons ?_ (Steps.cons ?_ (Steps.cons ?_ (Steps.cons ?_ (Steps.cons ?_ (Steps.cons ?_ (Steps.cons ?_ Steps.nil)))))))))))
      · refine step_is _ rfl ⟨_, rfl⟩ rfl (fun _ _ => trivial) ?_
        intro a W hi hF hD
        have hu := hi.upd
        have e4 : a.tmps[4]?.getD undef = _ := (ev a 4).symm.trans (hF 4 (by kernel_rfl))
        clear hF hD
        go_simp
      · refine step_is _ rfl ⟨_, rfl⟩ rfl (fun _ _ => trivial) ?_
        intro a W hi hF hD
        have hu := hi.upd
        have e0 : a.tmps[0]?.getD undef = _ := (ev a 0).symm.trans (hF 0 (by kernel_rfl))
        clear hF hD
        go_simp
      · refine step_is _ rfl ⟨_, rfl⟩ rfl (fun _ _ => trivial) ?_
        intro a W hi hF hD
        have hu := hi.upd
        have e36 : a.tmps[36]?.getD undef = .string s := (ev a 36).symm.trans (hD _ (Array.mem_of_getElem? (i := 0) rfl) rfl).1
        clear hF hD
        have := HY.out
        go_simp
      · refine step_is _ rfl ⟨_, rfl⟩ rfl (fun _ _ => trivial) ?_
        intro a W hi hF hD
        have hu := hi.upd
        have e37 : a.tmps[37]?.getD undef = .int .u8 y := (ev a 37).symm.trans (hD _ (Array.mem_of_getElem? (i := 0) rfl) rfl).1
        clear hF hD
        go_simp
        exact IntWalk.i64_in _ (by omega)
      · refine step_is _ rfl ⟨_, rfl⟩ rfl (fun _ _ => trivial) ?_
        intro a W hi hF hD
        have hu := hi.upd
        have e0 : a.tmps[0]?.getD undef = _ := (ev a 0).symm.trans (hF 0 (by kernel_rfl))
        clear hF hD
        go_simp
      · refine step_is _ rfl ⟨_, rfl⟩ rfl (fun _ _ => trivial) ?_
        intro a W hi hF hD
        have hu := hi.upd
        have e5 : a.tmps[5]?.getD undef = _ := (ev a 5).symm.trans (hF 5 (by kernel_rfl))
        clear hF hD
        have hwr : True → wrap64 (s[1].toNat : Int) = (j : Int) := fun _ => by rw [HJ.out]; exact IntWalk.wrap64_in _ (by omega)
        go_simp
      · refine step_is _ rfl ⟨_, rfl⟩ rfl (fun _ _ => trivial) ?_
        intro a W hi hF hD
        have hu := hi.upd
        have e39 : a.tmps[39]?.getD undef = .string s := (ev a 39).symm.trans (hD _ (Array.mem_of_getElem? (i := 0) rfl) rfl).1
        have e40 : a.tmps[40]?.getD undef = .int .i64 j := (ev a 40).symm.trans (hD _ (Array.mem_of_getElem? (i := 1) rfl) rfl).1
        clear hF hD
        have := HX.out
        go_simp
      · refine step_call rfl (fun _ _ => trivial) ?_
        intro a W hi hF hD
        have hu := hi.upd
        have e41 : a.tmps[41]?.getD undef = .string X := (ev a 41).symm.trans (hD _ (Array.mem_of_getElem? (i := 0) rfl) rfl).1
        clear hF hD
        refine ⟨_, _, by (go_simp; first | done | rfl | exact ⟨rfl, rfl⟩), ?_⟩
        refine (clone_any X _ HXS.out).mono ?_
        rintro e w2 ⟨rfl, hu2⟩
        first | exact ⟨_, rfl, hu2, rfl⟩ | (cases hu2; exact ⟨_, rfl, Upd.refl _ _, rfl⟩)
      · refine step_is _ rfl ⟨_, rfl⟩ rfl (fun _ _ => trivial) ?_
        intro a W hi hF hD
        have hu := hi.upd
        have e38 : a.tmps[38]?.getD undef = .int .i64 y := (ev a 38).symm.trans (hD _ (Array.mem_of_getElem? (i := 0) rfl) rfl).1
        have e42 : a.tmps[42]?.getD undef = .string X := (ev a 42).symm.trans (hD _ (Array.mem_of_getElem? (i := 1) rfl) rfl).1
        clear hF hD
        go_simp
      · refine step_run rfl (fun _ _ => trivial) ?_
        intro a W hi hF hD
        have hu := hi.upd
        have e43 : a.tmps[43]?.getD undef = .agg #[.int .i64 y, .string X] := (ev a 43).symm.trans (hD _ (Array.mem_of_getElem? (i := 0) rfl) rfl).1
        clear hF hD
        exact ⟨_, _, by (go_simp; first | done | rfl | exact ⟨rfl, rfl⟩), (Upd.refl _ _).alloc _, _, hu.size, rfl, Blk.new _ _ _⟩
      · refine step_gen rfl ⟨_, rfl⟩ ?_
        intro a W hi hF hD
        have hu := hi.upd
        have e35 : a.tmps[35]?.getD undef = .slice ao n cap := (ev a 35).symm.trans (hD _ (Array.mem_of_getElem? (i := 0) rfl) rfl).1
        obtain ⟨g44, _, e44, b44⟩ : ∃ g, wr.heap.size ≤ g ∧ a.eval (.tmp 44) = .slice (some ⟨g, 0, none⟩) 1 1 ∧ Blk W g 67 #[.int .i64 y, .string X] := (hD _ (Array.mem_of_getElem? (i := 1) rfl) rfl).1
        rw [ev] at e44
        clear hF hD
        obtain ⟨g, off, cap2, w2, own2, r1, r2, r3, r4, r5⟩ := run_append_keep (P := Tryz.prog) W 22 22 67 i0 _ 2 24 Tryz.underlying22 hi0 hz0 hz1 hz2 rfl (by decide) (.slice ao n cap) n (tgCells out) own hi.hold ⟨g44, 0, none⟩ 1 1 [.int .i64 y, .string X] rfl (World.news_of_block b44) (by simp [Value.oneCell']) (by decide) (by simp only [maxLen]; omega) (by omega)
        exact ⟨_, w2, exec_append rfl (by rw [ev]; exact e35) (by rw [ev]; exact e44) r1, Env.grow_set hu r4 r5 ⟨g, off, cap2, own2, rfl, r2, fun k hk => (r3 k hk).imp id (Nat.le_trans hu.size)⟩⟩
      · refine step_gen rfl ⟨_, rfl⟩ ?_
        intro a W hi hF hD
        have hu := hi.upd
        have d45 := (hD _ (Array.mem_of_getElem? (i := 0) rfl) rfl).2
        clear hF hD
        exact ⟨_, W, by (go_simp; first | done | rfl | exact ⟨rfl, rfl⟩), Env.grow_on hi (by rw [← ev]; exact d45)⟩
    intro vals W hu hv
    have v0 : vals 0 = .slice ao n cap := (hv 0 (by decide)).1
    have v1 : vals 1 = .string s := (hv 1 (by decide)).1
    have v2 : vals 2 = .int .u8 y := (hv 2 (by decide)).1
    have v3 : vals 3 = .int .i64 y := (hv 3 (by decide)).1
    have v4 : vals 4 = .string s := (hv 4 (by decide)).1
    have v5 : vals 5 = .int .i64 j := (hv 5 (by decide)).1
    have v6 : vals 6 = .string X := (hv 6 (by decide)).1
    have v7 : vals 7 = .string X := (hv 7 (by decide)).1
    have v8 : vals 8 = .agg #[.int .i64 y, .string X] := (hv 8 (by decide)).1
    obtain ⟨g9, _, v9, b9⟩ : ∃ g, wr.heap.size ≤ g ∧ vals 9 = .slice (some ⟨g, 0, none⟩) 1 1 ∧ Blk W g 67 #[.int .i64 y, .string X] := (hv 9 (by decide)).1
    have v10 := (hv 10 (by decide)).2
    have v11 := (hv 11 (by decide)).2
    clear hv
    obtain ⟨g, off, cap2, own2, q11, ho2, hin2⟩ := Env.grow_get 11 rfl v11
    simp only [putAll, Act.put, Nat.zero_add, Nat.reduceAdd, q11, v0, v1, v2, v3, v4, v5, v6, v7, v8, v9, List.setIfInBounds_toArray, List.set_cons_zero, List.set_cons_succ]
    clear v0 v1 v2 v3 v4 v5 v6 v7 v8 v9
    rw [q11] at ho2
    have HO2 := Lib.hid ho2
    have HIN2 := Lib.hid hin2
    have HU2 := Lib.hid (show Upd own wr W from hu)
    have hwz : w.heap.size ≤ wr.heap.size := HU.out.size
    have hwr : True → wrap64 (s[1].toNat : Int) = (j : Int) := fun _ => by rw [HJ.out]; exact IntWalk.wrap64_in _ (by omega)
    clear ho2 hin2 hu v10 v11 q11
    go_wp2
    go_roundg (M - 1)
    case rel =>
      have hin3 : ∀ k, k ∈ own2 → w.heap.size ≤ k := fun k hk => by
        rcases HIN2.out k hk with h | h
        · exact HIN.out k h
        · omega
      refine ⟨M - 1, s.extract j s.size, out ++ [⟨y, X⟩], some ⟨g, off, none⟩, cap2, own2, rfl, rfl, by rw [List.length_append, List.length_singleton, ← HN.out], by rw [ByteArray.size_extract]; omega, by rw [ByteArray.size_extract]; omega, by rw [List.length_append, List.length_singleton, ← HN.out]; omega, ?_, hin3, HG.out, ?_⟩
      · rw [List.length_append, List.length_singleton, ← HN.out, tgCells_snoc]; exact HO2.out
      · exact HU.out.trans' HU2.out (fun x hx => .inr (HIN.out x hx))
    case measure => have := HMM.out; omega
end Go.Proofs.YthkfgjmifoeljaaGreat
