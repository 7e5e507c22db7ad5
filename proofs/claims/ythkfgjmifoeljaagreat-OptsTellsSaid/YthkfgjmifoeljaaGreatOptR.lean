/- The walks of the document's own answer to chapter 10: conf, PutOptions, PutData, Put. -/
import Derived.Test.YthkfgjmifoeljaaGreatRefW
import Derived.Test.YthkfgjmifoeljaaGreatOptE
namespace Go.Proofs.YthkfgjmifoeljaaGreat
open Go.RowKit
set_option linter.unusedSimpArgs false
set_option linter.unusedVariables false
set_option maxRecDepth 100000

theorem rconf_any (c : Int) (w : World) :
    Calls Tryz.prog 33 #[.int .i64 c] w fun e w' => e = .returned (.bool (hasOpts c)) ∧ w = w' := by
  go_enter Tryz.func33, Tryz.ntmps33
  go_wp2_with fail
  all_goals
    go_ret
    refine ⟨?_, rfl⟩
    simp_all [hasOpts]
    try omega

set_option maxHeartbeats 2000000 in
theorem rputOptions_any (l : List Tg) (v : Value) (w : World) (hl : TgsAt w v l) (hs : ∀ t ∈ l, t.s.size ≤ 140737488355328) :
    Calls Tryz.prog 10 #[v] w fun e w' => e = .returned (.tuple #[.string (putOpts l).1, .int .i64 (putOpts l).2]) ∧ Upd [] w w' := by
  obtain ⟨ao, cap, rfl, h1, h2, h3⟩ := id hl
  obtain ⟨n, hn⟩ : ∃ n, n = l.length := ⟨_, rfl⟩
  have HQ : Hid (putOpts l = (if 30 < n then (⟨#[]⟩, 2) else if l.any optWrong = true then (⟨#[]⟩, 1) else (encOpts l, 0))) := by show _ = _; rw [hn]; rfl
  rw [HQ.out]
  rw [← hn] at h1
  rw [← hn]
  have HL := Lib.hid hl
  have HN := Lib.hid hn
  have HS := Lib.hid hs
  simp only [maxLen] at h2
  clear h3 hl hn hs HQ
  by_cases t1 : 30 < n
  · rw [if_pos t1]
    have t1' : (30 : Int) < n := by omega
    go_enter Tryz.func10, Tryz.ntmps10
    go_wp2_with fail
    go_ret2
    exact ⟨rfl, Upd.refl _ _⟩
  rw [if_neg t1]
  have t1' : ¬ (30 : Int) < n := by omega
  obtain ⟨R, hR⟩ : ∃ R, R = (if l.any optWrong = true then ((⟨#[]⟩, 1) : ByteArray × Int) else (encOpts l, 0)) := ⟨_, rfl⟩
  rw [← hR]
  have HR := Lib.hid hR
  clear hR
  go_enter Tryz.func10, Tryz.ntmps10
  go_wp2_with fail
  go_loopg [4, 5] n (fun m s4 s5 wr => ∃ (k : Nat) (o : ByteArray), k + m = n ∧ s5 = .int .i64 k ∧ s4 = .string o ∧ o.size ≤ k * 255 ∧ o ++ encOpts (l.drop k) = encOpts l ∧ (∀ t ∈ l.take k, optWrong t = false) ∧ Upd [] w wr)
  case atStart => exact ⟨0, ⟨#[]⟩, by omega, rfl, rfl, by decide, ByteArray.empty_append, by simp, Upd.refl _ _⟩
  case round =>
    obtain ⟨k, o, hk, rfl, rfl, ho, hp, hw, hu⟩ := hrel
    have HU := Lib.hid hu
    by_cases t : k < n
    · obtain ⟨x, hx⟩ : ∃ x, l[k]? = some x := by
        have := HN.out
        exact ⟨_, List.getElem?_eq_getElem (by omega)⟩
      have hsz := HS.out x (List.mem_of_getElem? hx)
      obtain ⟨ao', cap', e0, _, _, h3⟩ := HL.out.upd hu
      injection e0 with e0 _ e2
      subst e0 e2
      obtain ⟨q, rfl, c0, c1⟩ := h3 k x hx
      clear h3
      have hd : l.drop k = x :: l.drop (k + 1) := by
        obtain ⟨h5, h6⟩ := List.getElem?_eq_some_iff.1 hx
        rw [List.drop_eq_getElem_cons h5, h6]
      have htk : l.take (k + 1) = l.take k ++ [x] := by
        obtain ⟨h5, h6⟩ := List.getElem?_eq_some_iff.1 hx
        rw [List.take_succ_eq_append_getElem h5, h6]
      rw [hd, encOpts, ← ByteArray.append_assoc] at hp
      have HP := Lib.hid (And.intro hp (And.intro hw htk))
      have HO := Lib.hid ho
      have hob : o.size ≤ 7650 := by have : k * 255 ≤ 30 * 255 := Nat.mul_le_mul_right _ (by omega); omega
      have HE : Hid (optWrong x = true → R = (⟨#[]⟩, 1)) := fun h => by
        rw [HR.out, if_pos (List.any_eq_true.2 ⟨x, List.mem_of_getElem? hx, h⟩)]
      clear hd htk hp hw ho hx
      by_cases t3 : x.k < 1
      · have HE2 : Hid (R = (⟨#[]⟩, 1)) := HE.out (by simp [optWrong]; omega)
        clear hu
        go_wp2_with fail
        go_ret2
        rw [HE2.out]
        exact ⟨rfl, HU.out⟩
      by_cases t4 : 255 < x.k
      · have HE2 : Hid (R = (⟨#[]⟩, 1)) := HE.out (by simp [optWrong]; omega)
        clear hu
        go_wp2_with fail
        go_ret2
        rw [HE2.out]
        exact ⟨rfl, HU.out⟩
      by_cases t5 : 253 < x.s.size
      · have HE2 : Hid (R = (⟨#[]⟩, 1)) := HE.out (by simp [optWrong]; omega)
        have t5' : (253 : Int) < x.s.size := by omega
        clear hu
        go_wp2_with fail
        go_ret2
        rw [HE2.out]
        exact ⟨rfl, HU.out⟩
      have t5' : ¬ (253 : Int) < x.s.size := by omega
      have HX4 : Hid (optWrong x = false) := by show _ = _; simp [optWrong]; omega
      have hcells : ∀ W, Upd [] wr W → W.cell? (q.add (k * 2)) = some (.int .i64 x.k) ∧ W.cell? ⟨(q.add (k * 2)).block, (q.add (k * 2)).off + 1, none⟩ = some (.string x.s) := fun W h =>
        ⟨(h.cell (cell_lt c0) (by simp)).trans c0, (h.cell (cell_lt c1) (by simp)).trans c1⟩
      have HW1 : Hid (IntKind.u8.wrap x.k = x.k) := by show x.k % 256 = x.k; omega
      have HW2 : Hid (IntKind.u8.wrap ((x.s.size : Int) + 2) = (x.s.size : Int) + 2) := by show ((x.s.size : Int) + 2) % 256 = _; omega
      clear hu
      go_wp2_with fail
      refine wp_region_facts (.pure) (trivial) [.is (.string o), .is (.slice (some q) n cap), .is (.int .i64 k), .is (.pointer (some (q.add (k * 2)))), .is (.pointer (some (q.add (k * 2)))), .is (.int .i64 x.k), .is (.int .u8 x.k), .is (.slice (some q) n cap), .is (.int .i64 k), .is (.pointer (some (q.add (k * 2)))), .is (.pointer (some ⟨(q.add (k * 2)).block, (q.add (k * 2)).off + 1, none⟩)), .is (.string x.s), .is (.int .i64 x.s.size), .is (.int .i64 ((x.s.size : Int) + 2)), .is (.int .u8 ((x.s.size : Int) + 2)), .made (0) (by simp [Env.pure]) 2 5 #[.int .u8 x.k, .int .u8 ((x.s.size : Int) + 2)], .is (.string (strOfNums [x.k, (x.s.size : Int) + 2])), .is (.string (o ++ strOfNums [x.k, (x.s.size : Int) + 2])), .is (.slice (some q) n cap), .is (.int .i64 k), .is (.pointer (some (q.add (k * 2)))), .is (.pointer (some ⟨(q.add (k * 2)).block, (q.add (k * 2)).off + 1, none⟩)), .is (.string x.s), .is (.string (o ++ strOfNums [x.k, (x.s.size : Int) + 2] ++ x.s)), .is (.string (o ++ strOfNums [x.k, (x.s.size : Int) + 2] ++ x.s))] (by kernel_rfl) (by kernel_rfl) (by kernel_rfl) (by kernel_rfl) ?_ ?_
      · refine Steps.cons ?_ (Steps.cons ?_ (Steps.cons ?_ (Steps.cons ?_ (Steps.cons ?_ (Steps.cons ?_ (Steps.cons ?_ (Steps.cons ?_ (Steps.cons ?_ (Steps.cons ?_ (Steps.cons ?_ (Steps.cons ?_ (Steps.cons ?_ (Steps.cons ?_ (Steps.cons ?_ (Steps.cons ?_ (Steps.cons ?_ (Steps.cons ?_ (Steps.cons ?_ (Steps.cons ?_ (Steps.cons ?_ (Steps.cons ?_ (Steps.cons ?_ (Steps.cons ?_ (Steps.cons ?_ Steps.nil))))))))))))))))))))))))
        · refine step_is _ rfl ⟨_, rfl⟩ rfl (fun _ _ => trivial) ?_
          intro a W hi hF hD
          have hu := hi.upd
          have e4 : a.tmps[4]?.getD undef = _ := (ev a 4).symm.trans (hF 4 (by kernel_rfl))
          clear hF hD
          have hc := hcells W hu
          go_simp
        · refine step_is _ rfl ⟨_, rfl⟩ rfl (fun _ _ => trivial) ?_
          intro a W hi hF hD
          have hu := hi.upd
          have e0 : a.tmps[0]?.getD undef = _ := (ev a 0).symm.trans (hF 0 (by kernel_rfl))
          clear hF hD
          have hc := hcells W hu
          go_simp
        · refine step_is _ rfl ⟨_, rfl⟩ rfl (fun _ _ => trivial) ?_
          intro a W hi hF hD
          have hu := hi.upd
          have e5 : a.tmps[5]?.getD undef = _ := (ev a 5).symm.trans (hF 5 (by kernel_rfl))
          clear hF hD
          have hc := hcells W hu
          go_simp
        · refine step_is _ rfl ⟨_, rfl⟩ rfl (fun _ _ => trivial) ?_
          intro a W hi hF hD
          have hu := hi.upd
          have e39 : a.tmps[39]?.getD undef = .slice (some q) n cap := (ev a 39).symm.trans (hD _ (Array.mem_of_getElem? (i := 0) rfl) rfl).1
          have e40 : a.tmps[40]?.getD undef = .int .i64 k := (ev a 40).symm.trans (hD _ (Array.mem_of_getElem? (i := 1) rfl) rfl).1
          clear hF hD
          have hc := hcells W hu
          go_simp
        · refine step_is _ rfl ⟨_, rfl⟩ rfl (fun _ _ => trivial) ?_
          intro a W hi hF hD
          have hu := hi.upd
          have e41 : a.tmps[41]?.getD undef = .pointer (some (q.add (k * 2))) := (ev a 41).symm.trans (hD _ (Array.mem_of_getElem? (i := 0) rfl) rfl).1
          clear hF hD
          have hc := hcells W hu
          go_simp
        · refine step_is _ rfl ⟨_, rfl⟩ rfl (fun _ _ => trivial) ?_
          intro a W hi hF hD
          have hu := hi.upd
          have e42 : a.tmps[42]?.getD undef = .pointer (some (q.add (k * 2))) := (ev a 42).symm.trans (hD _ (Array.mem_of_getElem? (i := 0) rfl) rfl).1
          clear hF hD
          have hc := hcells W hu
          go_simp
        · refine step_is _ rfl ⟨_, rfl⟩ rfl (fun _ _ => trivial) ?_
          intro a W hi hF hD
          have hu := hi.upd
          have e43 : a.tmps[43]?.getD undef = .int .i64 x.k := (ev a 43).symm.trans (hD _ (Array.mem_of_getElem? (i := 0) rfl) rfl).1
          clear hF hD
          have hc := hcells W hu
          have := HW1.out
          go_simp
        · refine step_is _ rfl ⟨_, rfl⟩ rfl (fun _ _ => trivial) ?_
          intro a W hi hF hD
          have hu := hi.upd
          have e0 : a.tmps[0]?.getD undef = _ := (ev a 0).symm.trans (hF 0 (by kernel_rfl))
          clear hF hD
          have hc := hcells W hu
          go_simp
        · refine step_is _ rfl ⟨_, rfl⟩ rfl (fun _ _ => trivial) ?_
          intro a W hi hF hD
          have hu := hi.upd
          have e5 : a.tmps[5]?.getD undef = _ := (ev a 5).symm.trans (hF 5 (by kernel_rfl))
          clear hF hD
          have hc := hcells W hu
          go_simp
        · refine step_is _ rfl ⟨_, rfl⟩ rfl (fun _ _ => trivial) ?_
          intro a W hi hF hD
          have hu := hi.upd
          have e45 : a.tmps[45]?.getD undef = .slice (some q) n cap := (ev a 45).symm.trans (hD _ (Array.mem_of_getElem? (i := 0) rfl) rfl).1
          have e46 : a.tmps[46]?.getD undef = .int .i64 k := (ev a 46).symm.trans (hD _ (Array.mem_of_getElem? (i := 1) rfl) rfl).1
          clear hF hD
          have hc := hcells W hu
          go_simp
        · refine step_is _ rfl ⟨_, rfl⟩ rfl (fun _ _ => trivial) ?_
          intro a W hi hF hD
          have hu := hi.upd
          have e47 : a.tmps[47]?.getD undef = .pointer (some (q.add (k * 2))) := (ev a 47).symm.trans (hD _ (Array.mem_of_getElem? (i := 0) rfl) rfl).1
          clear hF hD
          have hc := hcells W hu
          go_simp
        · refine step_is _ rfl ⟨_, rfl⟩ rfl (fun _ _ => trivial) ?_
          intro a W hi hF hD
          have hu := hi.upd
          have e48 : a.tmps[48]?.getD undef = .pointer (some ⟨(q.add (k * 2)).block, (q.add (k * 2)).off + 1, none⟩) := (ev a 48).symm.trans (hD _ (Array.mem_of_getElem? (i := 0) rfl) rfl).1
          clear hF hD
          have hc := hcells W hu
          go_simp
        · refine step_is _ rfl ⟨_, rfl⟩ rfl (fun _ _ => trivial) ?_
          intro a W hi hF hD
          have hu := hi.upd
          have e49 : a.tmps[49]?.getD undef = .string x.s := (ev a 49).symm.trans (hD _ (Array.mem_of_getElem? (i := 0) rfl) rfl).1
          clear hF hD
          have hc := hcells W hu
          go_simp
        · refine step_is _ rfl ⟨_, rfl⟩ rfl (fun _ _ => trivial) ?_
          intro a W hi hF hD
          have hu := hi.upd
          have e50 : a.tmps[50]?.getD undef = .int .i64 x.s.size := (ev a 50).symm.trans (hD _ (Array.mem_of_getElem? (i := 0) rfl) rfl).1
          clear hF hD
          have hc := hcells W hu
          go_simp
          exact IntWalk.i64_in _ (by omega)
        · refine step_is _ rfl ⟨_, rfl⟩ rfl (fun _ _ => trivial) ?_
          intro a W hi hF hD
          have hu := hi.upd
          have e51 : a.tmps[51]?.getD undef = .int .i64 ((x.s.size : Int) + 2) := (ev a 51).symm.trans (hD _ (Array.mem_of_getElem? (i := 0) rfl) rfl).1
          clear hF hD
          have hc := hcells W hu
          have := HW2.out
          go_simp
        · refine step_run rfl (fun _ _ => trivial) ?_
          intro a W hi hF hD
          have hu := hi.upd
          have e44 : a.tmps[44]?.getD undef = .int .u8 x.k := (ev a 44).symm.trans (hD _ (Array.mem_of_getElem? (i := 0) rfl) rfl).1
          have e52 : a.tmps[52]?.getD undef = .int .u8 ((x.s.size : Int) + 2) := (ev a 52).symm.trans (hD _ (Array.mem_of_getElem? (i := 1) rfl) rfl).1
          clear hF hD
          have hc := hcells W hu
          exact ⟨_, _, by (go_simp; first | done | rfl | exact ⟨rfl, rfl⟩), (Upd.refl _ _).alloc _, _, Nat.zero_le _, rfl, Blk.new _ _ _⟩
        · refine step_is _ rfl ⟨_, rfl⟩ rfl (fun _ _ => trivial) ?_
          intro a W hi hF hD
          have hu := hi.upd
          obtain ⟨g53, _, e53, b53⟩ : ∃ g, 0 ≤ g ∧ a.eval (.tmp 53) = .slice (some ⟨g, 0, none⟩) 2 2 ∧ Blk W g 5 #[.int .u8 x.k, .int .u8 ((x.s.size : Int) + 2)] := (hD _ (Array.mem_of_getElem? (i := 0) rfl) rfl).1
          rw [ev] at e53
          clear hF hD
          have hc := hcells W hu
          have hcv := str2 (P := Tryz.prog) (dst := 9) Tryz.underlying71 Tryz.underlying5 Tryz.underlying9 b53
          go_simp
        · refine step_is _ rfl ⟨_, rfl⟩ rfl (fun _ _ => trivial) ?_
          intro a W hi hF hD
          have hu := hi.upd
          have e38 : a.tmps[38]?.getD undef = .string o := (ev a 38).symm.trans (hD _ (Array.mem_of_getElem? (i := 0) rfl) rfl).1
          have e54 : a.tmps[54]?.getD undef = .string (strOfNums [x.k, (x.s.size : Int) + 2]) := (ev a 54).symm.trans (hD _ (Array.mem_of_getElem? (i := 1) rfl) rfl).1
          clear hF hD
          have hc := hcells W hu
          have := run_string_add_sum (P := Tryz.prog) W o (strOfNums [x.k, (x.s.size : Int) + 2]) (by rw [strOfNums_size]; simp; omega)
          go_simp
        · refine step_is _ rfl ⟨_, rfl⟩ rfl (fun _ _ => trivial) ?_
          intro a W hi hF hD
          have hu := hi.upd
          have e0 : a.tmps[0]?.getD undef = _ := (ev a 0).symm.trans (hF 0 (by kernel_rfl))
          clear hF hD
          have hc := hcells W hu
          go_simp
        · refine step_is _ rfl ⟨_, rfl⟩ rfl (fun _ _ => trivial) ?_
          intro a W hi hF hD
          have hu := hi.upd
          have e5 : a.tmps[5]?.getD undef = _ := (ev a 5).symm.trans (hF 5 (by kernel_rfl))
          clear hF hD
          have hc := hcells W hu
          go_simp
        · refine step_is _ rfl ⟨_, rfl⟩ rfl (fun _ _ => trivial) ?_
          intro a W hi hF hD
          have hu := hi.upd
          have e56 : a.tmps[56]?.getD undef = .slice (some q) n cap := (ev a 56).symm.trans (hD _ (Array.mem_of_getElem? (i := 0) rfl) rfl).1
          have e57 : a.tmps[57]?.getD undef = .int .i64 k := (ev a 57).symm.trans (hD _ (Array.mem_of_getElem? (i := 1) rfl) rfl).1
          clear hF hD
          have hc := hcells W hu
          go_simp
        · refine step_is _ rfl ⟨_, rfl⟩ rfl (fun _ _ => trivial) ?_
          intro a W hi hF hD
          have hu := hi.upd
          have e58 : a.tmps[58]?.getD undef = .pointer (some (q.add (k * 2))) := (ev a 58).symm.trans (hD _ (Array.mem_of_getElem? (i := 0) rfl) rfl).1
          clear hF hD
          have hc := hcells W hu
          go_simp
        · refine step_is _ rfl ⟨_, rfl⟩ rfl (fun _ _ => trivial) ?_
          intro a W hi hF hD
          have hu := hi.upd
          have e59 : a.tmps[59]?.getD undef = .pointer (some ⟨(q.add (k * 2)).block, (q.add (k * 2)).off + 1, none⟩) := (ev a 59).symm.trans (hD _ (Array.mem_of_getElem? (i := 0) rfl) rfl).1
          clear hF hD
          have hc := hcells W hu
          go_simp
        · refine step_is _ rfl ⟨_, rfl⟩ rfl (fun _ _ => trivial) ?_
          intro a W hi hF hD
          have hu := hi.upd
          have e55 : a.tmps[55]?.getD undef = .string (o ++ strOfNums [x.k, (x.s.size : Int) + 2]) := (ev a 55).symm.trans (hD _ (Array.mem_of_getElem? (i := 0) rfl) rfl).1
          have e60 : a.tmps[60]?.getD undef = .string x.s := (ev a 60).symm.trans (hD _ (Array.mem_of_getElem? (i := 1) rfl) rfl).1
          clear hF hD
          have hc := hcells W hu
          have := run_string_add_sum (P := Tryz.prog) W (o ++ strOfNums [x.k, (x.s.size : Int) + 2]) x.s (by rw [ByteArray.size_append, strOfNums_size]; simp; omega)
          go_simp
        · refine step_is _ rfl ⟨_, rfl⟩ rfl (fun _ _ => trivial) ?_
          intro a W hi hF hD
          have hu := hi.upd
          have e61 : a.tmps[61]?.getD undef = .string (o ++ strOfNums [x.k, (x.s.size : Int) + 2] ++ x.s) := (ev a 61).symm.trans (hD _ (Array.mem_of_getElem? (i := 0) rfl) rfl).1
          clear hF hD
          have hc := hcells W hu
          go_simp
      intro vals W hu hv
      have v0 : vals 0 = .string o := (hv 0 (by decide)).1
      have v1 : vals 1 = .slice (some q) n cap := (hv 1 (by decide)).1
      have v2 : vals 2 = .int .i64 k := (hv 2 (by decide)).1
      have v3 : vals 3 = .pointer (some (q.add (k * 2))) := (hv 3 (by decide)).1
      have v4 : vals 4 = .pointer (some (q.add (k * 2))) := (hv 4 (by decide)).1
      have v5 : vals 5 = .int .i64 x.k := (hv 5 (by decide)).1
      have v6 : vals 6 = .int .u8 x.k := (hv 6 (by decide)).1
      have v7 : vals 7 = .slice (some q) n cap := (hv 7 (by decide)).1
      have v8 : vals 8 = .int .i64 k := (hv 8 (by decide)).1
      have v9 : vals 9 = .pointer (some (q.add (k * 2))) := (hv 9 (by decide)).1
      have v10 : vals 10 = .pointer (some ⟨(q.add (k * 2)).block, (q.add (k * 2)).off + 1, none⟩) := (hv 10 (by decide)).1
      have v11 : vals 11 = .string x.s := (hv 11 (by decide)).1
      have v12 : vals 12 = .int .i64 x.s.size := (hv 12 (by decide)).1
      have v13 : vals 13 = .int .i64 ((x.s.size : Int) + 2) := (hv 13 (by decide)).1
      have v14 : vals 14 = .int .u8 ((x.s.size : Int) + 2) := (hv 14 (by decide)).1
      obtain ⟨g15, _, v15, b15⟩ : ∃ g, 0 ≤ g ∧ vals 15 = .slice (some ⟨g, 0, none⟩) 2 2 ∧ Blk W g 5 #[.int .u8 x.k, .int .u8 ((x.s.size : Int) + 2)] := (hv 15 (by decide)).1
      have v16 : vals 16 = .string (strOfNums [x.k, (x.s.size : Int) + 2]) := (hv 16 (by decide)).1
      have v17 : vals 17 = .string (o ++ strOfNums [x.k, (x.s.size : Int) + 2]) := (hv 17 (by decide)).1
      have v18 : vals 18 = .slice (some q) n cap := (hv 18 (by decide)).1
      have v19 : vals 19 = .int .i64 k := (hv 19 (by decide)).1
      have v20 : vals 20 = .pointer (some (q.add (k * 2))) := (hv 20 (by decide)).1
      have v21 : vals 21 = .pointer (some ⟨(q.add (k * 2)).block, (q.add (k * 2)).off + 1, none⟩) := (hv 21 (by decide)).1
      have v22 : vals 22 = .string x.s := (hv 22 (by decide)).1
      have v23 : vals 23 = .string (o ++ strOfNums [x.k, (x.s.size : Int) + 2] ++ x.s) := (hv 23 (by decide)).1
      have v24 : vals 24 = .string (o ++ strOfNums [x.k, (x.s.size : Int) + 2] ++ x.s) := (hv 24 (by decide)).1
      clear hv
      simp only [putAll, Act.put, Nat.zero_add, Nat.reduceAdd, v0, v1, v2, v3, v4, v5, v6, v7, v8, v9, v10, v11, v12, v13, v14, v15, v16, v17, v18, v19, v20, v21, v22, v23, v24, List.setIfInBounds_toArray, List.set_cons_zero, List.set_cons_succ]
      clear v0 v1 v2 v3 v4 v5 v6 v7 v8 v9 v10 v11 v12 v13 v14 v15 v16 v17 v18 v19 v20 v21 v22 v23 v24
      have HU3 := Lib.hid (HU.out.trans hu)
      clear hu hcells
      go_wp2_with fail
      go_roundg (n - (k + 1))
      case rel =>
        obtain ⟨hp, hw, htk⟩ := HP.out
        refine ⟨k + 1, _, by omega, by go_num, rfl, ?_, ?_, ?_, HU3.out⟩
        · have := HO.out
          rw [ByteArray.size_append, ByteArray.size_append, strOfNums_size]
          simp
          omega
        · have e : o ++ strOfNums [x.k, (x.s.size : Int) + 2] ++ x.s = o ++ x.obytes := ByteArray.append_assoc
          rw [e]
          exact hp
        · rw [htk]
          intro t ht
          rcases List.mem_append.1 ht with ht | ht
          · exact hw t ht
          · simp at ht; subst ht; exact HX4.out
      case measure => omega
    · obtain rfl : k = n := by omega
      have hd : l.drop k = [] := by rw [HN.out]; simp
      rw [hd] at hp
      have hp2 : o = encOpts l := by
        have : encOpts [] = ByteArray.empty := rfl
        rw [this, ByteArray.append_empty] at hp
        exact hp
      rw [List.take_of_length_le (by have := HN.out; omega)] at hw
      have hany : l.any optWrong = false := by
        rw [List.any_eq_false]
        intro t ht
        rw [hw t ht]; simp
      have HE : Hid (R = (o, 0)) := by
        show _ = _
        rw [HR.out, hany, if_neg (by simp), hp2]
      clear hp hd hp2 hw hany hu
      go_wp2_with fail
      go_ret2
      rw [HE.out]
      exact ⟨rfl, HU.out⟩

/-- What the bad packets are, as the walk tests them. -/
theorem numbered_parts (c i : Int) : numberedB c i = false ↔ (c < 0 ∨ 255 < c ∨ i < 0 ∨ 255 < i) := by
  simp [numberedB]
  omega
set_option maxHeartbeats 2000000 in
theorem rputData_any (p : Pk) (v : Value) (w : World) (hl : TgsAt w v p.opts) (hd : p.data.size ≤ maxLen) :
    Calls Tryz.prog 14 #[p.val v] w fun e w' => e = .returned (.tuple #[.string p.putData.1, .int .i64 p.putData.2]) ∧ Upd [] w w' := by
  obtain ⟨ao, cap, rfl, -, -, -⟩ := hl
  obtain ⟨c, i, l, d⟩ := p
  obtain ⟨n, hn⟩ : ∃ n, n = l.length := ⟨_, rfl⟩
  have HQ : Hid (Pk.putData ⟨c, i, l, d⟩ = if numberedB c i = false ∨ 0 < n then (⟨#[]⟩, 1) else layB c i d) := by show _ = _; rw [Pk.putData, hn]
  simp only [Pk.val]
  show Calls _ _ #[.agg #[.int .i64 c, .int .i64 i, .slice ao l.length cap, .string d]] w _
  rw [HQ.out, ← hn]
  simp only [maxLen] at hd
  clear HQ hn
  by_cases tb : c < 0 ∨ 255 < c ∨ i < 0 ∨ 255 < i ∨ 0 < n
  · have HQ : Hid ((if numberedB c i = false ∨ 0 < n then ((⟨#[]⟩, 1) : ByteArray × Int) else layB c i d) = (⟨#[]⟩, 1)) := by
      show _ = _
      rw [if_pos]
      rw [numbered_parts]; omega
    rw [HQ.out]
    clear HQ
    by_cases a1 : c < 0
    · clear tb
      go_enter Tryz.func14, Tryz.ntmps14
      go_wp2_with fail
      go_ret2
      exact ⟨rfl, (Upd.refl _ _).alloc _⟩
    by_cases a2 : 255 < c
    · clear tb
      go_enter Tryz.func14, Tryz.ntmps14
      go_wp2_with fail
      go_ret2
      exact ⟨rfl, (Upd.refl _ _).alloc _⟩
    by_cases a3 : i < 0
    · clear tb
      go_enter Tryz.func14, Tryz.ntmps14
      go_wp2_with fail
      go_ret2
      exact ⟨rfl, (Upd.refl _ _).alloc _⟩
    by_cases a4 : 255 < i
    · clear tb
      go_enter Tryz.func14, Tryz.ntmps14
      go_wp2_with fail
      go_ret2
      exact ⟨rfl, (Upd.refl _ _).alloc _⟩
    have a5 : 0 < n := by omega
    have a5' : (0 : Int) < n := by omega
    clear tb
    go_enter Tryz.func14, Tryz.ntmps14
    go_wp2_with fail
    go_ret2
    exact ⟨rfl, (Upd.refl _ _).alloc _⟩
  have HQ : Hid ((if numberedB c i = false ∨ 0 < n then ((⟨#[]⟩, 1) : ByteArray × Int) else layB c i d) = layB c i d) := by
    show _ = _
    rw [if_neg]
    rw [numbered_parts]; omega
  rw [HQ.out]
  have a1 : ¬ c < 0 := by omega
  have a2 : ¬ 255 < c := by omega
  have a3 : ¬ i < 0 := by omega
  have a4 : ¬ 255 < i := by omega
  obtain rfl : n = 0 := by omega
  clear tb HQ
  by_cases t1 : 1488 < d.size
  · have HQ : Hid (layB c i d = (⟨#[]⟩, 2)) := if_pos t1
    rw [HQ.out]
    have t1' : (1488 : Int) < d.size := by omega
    go_enter Tryz.func14, Tryz.ntmps14
    go_wp2_with fail
    go_ret2
    exact ⟨rfl, (Upd.refl _ _).alloc _⟩
  have HQ : Hid (layB c i d = (strOfNums [c % 256, i % 256] ++ be 2 (d.size + 4) ++ d, 0)) := if_neg t1
  rw [HQ.out]
  have t1' : ¬ (1488 : Int) < d.size := by omega
  clear HQ
  go_enter Tryz.func14, Tryz.ntmps14
  go_wp2_with fail
  obtain ⟨A, hA⟩ : ∃ A, A = Obj.cells #[Value.int IntKind.i64 c, Value.int IntKind.i64 i, Value.slice ao (0 : Nat) cap, Value.string d] 24 := ⟨_, rfl⟩
  have A0 : Blk (w.alloc A) w.heap.size 24 #[Value.int IntKind.i64 c, Value.int IntKind.i64 i, Value.slice ao (0 : Nat) cap, Value.string d] := by rw [hA]; exact Blk.new _ _ _
  have U0 : Upd [] w (w.alloc A) := (Upd.refl [] w).alloc A
  rw [← hA]
  clear hA
  generalize w.alloc A = w1 at *
  have hcells : ∀ W, Upd [] w1 W → W.cell? ⟨w.heap.size, 0, none⟩ = some (.int .i64 c) ∧ W.cell? ⟨w.heap.size, 1, none⟩ = some (.int .i64 i) ∧ W.cell? ⟨w.heap.size, 3, none⟩ = some (.string d) := fun W hu =>
    ⟨(A0.upd hu (by simp)).cell 0, (A0.upd hu (by simp)).cell 1, (A0.upd hu (by simp)).cell 3⟩
  refine wp_region_facts (.pure) (trivial) [.is (.pointer (some ⟨w.heap.size, 0, none⟩)), .is (.int .i64 c), .is (.int .u8 (c % 256)), .is (.pointer (some ⟨w.heap.size, 1, none⟩)), .is (.int .i64 i), .is (.int .u8 (i % 256)), .made (0) (by simp [Env.pure]) 2 5 #[.int .u8 (c % 256), .int .u8 (i % 256)], .is (.string (strOfNums [c % 256, i % 256])), .is (.pointer (some ⟨w.heap.size, 3, none⟩)), .is (.string d), .is (.int .i64 d.size), .is (.int .i64 ((d.size : Int) + 4)), .is (.string (be 2 ((d.size : Int) + 4))), .is (.string (strOfNums [c % 256, i % 256] ++ be 2 ((d.size : Int) + 4))), .is (.pointer (some ⟨w.heap.size, 3, none⟩)), .is (.string d), .is (.string (strOfNums [c % 256, i % 256] ++ be 2 ((d.size : Int) + 4) ++ d)), .is (.string (strOfNums [c % 256, i % 256] ++ be 2 ((d.size : Int) + 4) ++ d)), .is (.int .i64 0)] (by kernel_rfl) (by kernel_rfl) (by kernel_rfl) (by kernel_rfl) ?_ ?_
  · refine Steps.cons ?_ (Steps.cons ?_ (Steps.cons ?_ (Steps.cons ?_ (Steps.cons ?_ (Steps.cons ?_ (Steps.cons ?_ (Steps.cons ?_ (Steps.cons ?_ (Steps.cons ?_ (Steps.cons ?_ (Steps.cons ?_ (Steps.cons ?_ (Steps.cons ?_ (Steps.cons ?_ (Steps.cons ?_ (Steps.cons ?_ (Steps.cons ?_ (Steps.cons ?_ Steps.nil))))))))))))))))))
    · refine step_is _ rfl ⟨_, rfl⟩ rfl (fun _ _ => trivial) ?_
      intro a W hi hF hD
      have hu := hi.upd
      have e1 : a.tmps[1]?.getD undef = _ := (ev a 1).symm.trans (hF 1 (by kernel_rfl))
      clear hF hD
      have hc := hcells W hu
      go_simp
    · refine step_is _ rfl ⟨_, rfl⟩ rfl (fun _ _ => trivial) ?_
      intro a W hi hF hD
      have hu := hi.upd
      have e32 : a.tmps[32]?.getD undef = .pointer (some ⟨w.heap.size, 0, none⟩) := (ev a 32).symm.trans (hD _ (Array.mem_of_getElem? (i := 0) rfl) rfl).1
      clear hF hD
      have hc := hcells W hu
      go_simp
    · refine step_is _ rfl ⟨_, rfl⟩ rfl (fun _ _ => trivial) ?_
      intro a W hi hF hD
      have hu := hi.upd
      have e33 : a.tmps[33]?.getD undef = .int .i64 c := (ev a 33).symm.trans (hD _ (Array.mem_of_getElem? (i := 0) rfl) rfl).1
      clear hF hD
      have hc := hcells W hu
      go_simp
      rfl
    · refine step_is _ rfl ⟨_, rfl⟩ rfl (fun _ _ => trivial) ?_
      intro a W hi hF hD
      have hu := hi.upd
      have e1 : a.tmps[1]?.getD undef = _ := (ev a 1).symm.trans (hF 1 (by kernel_rfl))
      clear hF hD
      have hc := hcells W hu
      go_simp
    · refine step_is _ rfl ⟨_, rfl⟩ rfl (fun _ _ => trivial) ?_
      intro a W hi hF hD
      have hu := hi.upd
      have e35 : a.tmps[35]?.getD undef = .pointer (some ⟨w.heap.size, 1, none⟩) := (ev a 35).symm.trans (hD _ (Array.mem_of_getElem? (i := 0) rfl) rfl).1
      clear hF hD
      have hc := hcells W hu
      go_simp
    · refine step_is _ rfl ⟨_, rfl⟩ rfl (fun _ _ => trivial) ?_
      intro a W hi hF hD
      have hu := hi.upd
      have e36 : a.tmps[36]?.getD undef = .int .i64 i := (ev a 36).symm.trans (hD _ (Array.mem_of_getElem? (i := 0) rfl) rfl).1
      clear hF hD
      have hc := hcells W hu
      go_simp
      rfl
    · refine step_run rfl (fun _ _ => trivial) ?_
      intro a W hi hF hD
      have hu := hi.upd
      have e34 : a.tmps[34]?.getD undef = .int .u8 (c % 256) := (ev a 34).symm.trans (hD _ (Array.mem_of_getElem? (i := 0) rfl) rfl).1
      have e37 : a.tmps[37]?.getD undef = .int .u8 (i % 256) := (ev a 37).symm.trans (hD _ (Array.mem_of_getElem? (i := 1) rfl) rfl).1
      clear hF hD
      have hc := hcells W hu
      exact ⟨_, _, by (go_simp; first | done | rfl | exact ⟨rfl, rfl⟩), (Upd.refl _ _).alloc _, _, Nat.zero_le _, rfl, Blk.new _ _ _⟩
    · refine step_is _ rfl ⟨_, rfl⟩ rfl (fun _ _ => trivial) ?_
      intro a W hi hF hD
      have hu := hi.upd
      obtain ⟨g38, _, e38, b38⟩ : ∃ g, 0 ≤ g ∧ a.eval (.tmp 38) = .slice (some ⟨g, 0, none⟩) 2 2 ∧ Blk W g 5 #[.int .u8 (c % 256), .int .u8 (i % 256)] := (hD _ (Array.mem_of_getElem? (i := 0) rfl) rfl).1
      rw [ev] at e38
      clear hF hD
      have hc := hcells W hu
      have hcv := str2 (P := Tryz.prog) (dst := 9) Tryz.underlying71 Tryz.underlying5 Tryz.underlying9 b38
      go_simp
    · refine step_is _ rfl ⟨_, rfl⟩ rfl (fun _ _ => trivial) ?_
      intro a W hi hF hD
      have hu := hi.upd
      have e1 : a.tmps[1]?.getD undef = _ := (ev a 1).symm.trans (hF 1 (by kernel_rfl))
      clear hF hD
      have hc := hcells W hu
      go_simp
    · refine step_is _ rfl ⟨_, rfl⟩ rfl (fun _ _ => trivial) ?_
      intro a W hi hF hD
      have hu := hi.upd
      have e40 : a.tmps[40]?.getD undef = .pointer (some ⟨w.heap.size, 3, none⟩) := (ev a 40).symm.trans (hD _ (Array.mem_of_getElem? (i := 0) rfl) rfl).1
      clear hF hD
      have hc := hcells W hu
      go_simp
    · refine step_is _ rfl ⟨_, rfl⟩ rfl (fun _ _ => trivial) ?_
      intro a W hi hF hD
      have hu := hi.upd
      have e41 : a.tmps[41]?.getD undef = .string d := (ev a 41).symm.trans (hD _ (Array.mem_of_getElem? (i := 0) rfl) rfl).1
      clear hF hD
      have hc := hcells W hu
      go_simp
    · refine step_is _ rfl ⟨_, rfl⟩ rfl (fun _ _ => trivial) ?_
      intro a W hi hF hD
      have hu := hi.upd
      have e42 : a.tmps[42]?.getD undef = .int .i64 d.size := (ev a 42).symm.trans (hD _ (Array.mem_of_getElem? (i := 0) rfl) rfl).1
      clear hF hD
      have hc := hcells W hu
      go_simp
      exact IntWalk.i64_in _ (by omega)
    · refine step_call rfl (fun _ _ => trivial) ?_
      intro a W hi hF hD
      have hu := hi.upd
      have e43 : a.tmps[43]?.getD undef = .int .i64 ((d.size : Int) + 4) := (ev a 43).symm.trans (hD _ (Array.mem_of_getElem? (i := 0) rfl) rfl).1
      clear hF hD
      have hc := hcells W hu
      refine ⟨_, _, by (go_simp; first | done | rfl | exact ⟨rfl, rfl⟩), ?_⟩
      refine (rtwo_any ((d.size : Int) + 4) (by omega) _).mono ?_
      rintro e w2 ⟨rfl, hu2⟩
      first | exact ⟨_, rfl, hu2, rfl⟩ | (cases hu2; exact ⟨_, rfl, Upd.refl _ _, rfl⟩)
    · refine step_is _ rfl ⟨_, rfl⟩ rfl (fun _ _ => trivial) ?_
      intro a W hi hF hD
      have hu := hi.upd
      have e39 : a.tmps[39]?.getD undef = .string (strOfNums [c % 256, i % 256]) := (ev a 39).symm.trans (hD _ (Array.mem_of_getElem? (i := 0) rfl) rfl).1
      have e44 : a.tmps[44]?.getD undef = .string (be 2 ((d.size : Int) + 4)) := (ev a 44).symm.trans (hD _ (Array.mem_of_getElem? (i := 1) rfl) rfl).1
      clear hF hD
      have hc := hcells W hu
      have := run_string_add_sum (P := Tryz.prog) W (strOfNums [c % 256, i % 256]) (be 2 ((d.size : Int) + 4)) (by rw [strOfNums_size, be_size]; simp)
      go_simp
    · refine step_is _ rfl ⟨_, rfl⟩ rfl (fun _ _ => trivial) ?_
      intro a W hi hF hD
      have hu := hi.upd
      have e1 : a.tmps[1]?.getD undef = _ := (ev a 1).symm.trans (hF 1 (by kernel_rfl))
      clear hF hD
      have hc := hcells W hu
      go_simp
    · refine step_is _ rfl ⟨_, rfl⟩ rfl (fun _ _ => trivial) ?_
      intro a W hi hF hD
      have hu := hi.upd
      have e46 : a.tmps[46]?.getD undef = .pointer (some ⟨w.heap.size, 3, none⟩) := (ev a 46).symm.trans (hD _ (Array.mem_of_getElem? (i := 0) rfl) rfl).1
      clear hF hD
      have hc := hcells W hu
      go_simp
    · refine step_is _ rfl ⟨_, rfl⟩ rfl (fun _ _ => trivial) ?_
      intro a W hi hF hD
      have hu := hi.upd
      have e45 : a.tmps[45]?.getD undef = .string (strOfNums [c % 256, i % 256] ++ be 2 ((d.size : Int) + 4)) := (ev a 45).symm.trans (hD _ (Array.mem_of_getElem? (i := 0) rfl) rfl).1
      have e47 : a.tmps[47]?.getD undef = .string d := (ev a 47).symm.trans (hD _ (Array.mem_of_getElem? (i := 1) rfl) rfl).1
      clear hF hD
      have hc := hcells W hu
      have := run_string_add_sum (P := Tryz.prog) W (strOfNums [c % 256, i % 256] ++ be 2 ((d.size : Int) + 4)) d (by rw [ByteArray.size_append, strOfNums_size, be_size]; simp; omega)
      go_simp
    · refine step_is _ rfl ⟨_, rfl⟩ rfl (fun _ _ => trivial) ?_
      intro a W hi hF hD
      have hu := hi.upd
      have e48 : a.tmps[48]?.getD undef = .string (strOfNums [c % 256, i % 256] ++ be 2 ((d.size : Int) + 4) ++ d) := (ev a 48).symm.trans (hD _ (Array.mem_of_getElem? (i := 0) rfl) rfl).1
      clear hF hD
      have hc := hcells W hu
      go_simp
    · refine step_is _ rfl ⟨_, rfl⟩ rfl (fun _ _ => trivial) ?_
      intro a W hi hF hD
      have hu := hi.upd
      clear hF hD
      have hc := hcells W hu
      go_simp
  intro vals W hu hv
  have v0 : vals 0 = .pointer (some ⟨w.heap.size, 0, none⟩) := (hv 0 (by decide)).1
  have v1 : vals 1 = .int .i64 c := (hv 1 (by decide)).1
  have v2 : vals 2 = .int .u8 (c % 256) := (hv 2 (by decide)).1
  have v3 : vals 3 = .pointer (some ⟨w.heap.size, 1, none⟩) := (hv 3 (by decide)).1
  have v4 : vals 4 = .int .i64 i := (hv 4 (by decide)).1
  have v5 : vals 5 = .int .u8 (i % 256) := (hv 5 (by decide)).1
  obtain ⟨g6, _, v6, b6⟩ : ∃ g, 0 ≤ g ∧ vals 6 = .slice (some ⟨g, 0, none⟩) 2 2 ∧ Blk W g 5 #[.int .u8 (c % 256), .int .u8 (i % 256)] := (hv 6 (by decide)).1
  have v7 : vals 7 = .string (strOfNums [c % 256, i % 256]) := (hv 7 (by decide)).1
  have v8 : vals 8 = .pointer (some ⟨w.heap.size, 3, none⟩) := (hv 8 (by decide)).1
  have v9 : vals 9 = .string d := (hv 9 (by decide)).1
  have v10 : vals 10 = .int .i64 d.size := (hv 10 (by decide)).1
  have v11 : vals 11 = .int .i64 ((d.size : Int) + 4) := (hv 11 (by decide)).1
  have v12 : vals 12 = .string (be 2 ((d.size : Int) + 4)) := (hv 12 (by decide)).1
  have v13 : vals 13 = .string (strOfNums [c % 256, i % 256] ++ be 2 ((d.size : Int) + 4)) := (hv 13 (by decide)).1
  have v14 : vals 14 = .pointer (some ⟨w.heap.size, 3, none⟩) := (hv 14 (by decide)).1
  have v15 : vals 15 = .string d := (hv 15 (by decide)).1
  have v16 : vals 16 = .string (strOfNums [c % 256, i % 256] ++ be 2 ((d.size : Int) + 4) ++ d) := (hv 16 (by decide)).1
  have v17 : vals 17 = .string (strOfNums [c % 256, i % 256] ++ be 2 ((d.size : Int) + 4) ++ d) := (hv 17 (by decide)).1
  have v18 : vals 18 = .int .i64 0 := (hv 18 (by decide)).1
  clear hv
  simp only [putAll, Act.put, Nat.zero_add, Nat.reduceAdd, v0, v1, v2, v3, v4, v5, v6, v7, v8, v9, v10, v11, v12, v13, v14, v15, v16, v17, v18, List.setIfInBounds_toArray, List.set_cons_zero, List.set_cons_succ]
  clear v0 v1 v2 v3 v4 v5 v6 v7 v8 v9 v10 v11 v12 v13 v14 v15 v16 v17 v18
  go_wp2_with fail
  go_ret2
  exact ⟨rfl, U0.trans hu⟩
end Go.Proofs.YthkfgjmifoeljaaGreat
