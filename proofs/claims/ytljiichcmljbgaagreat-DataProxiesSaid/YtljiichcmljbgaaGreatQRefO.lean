/- The walks of the document's own PutOptions, GetOptions, SameOptions (chapter 10). -/
import Derived.Test.YtljiichcmljbgaaGreatQOptA
namespace Go.Proofs.YtljiichcmljbgaaGreat
open Go.RowKit
set_option linter.unusedSimpArgs false
set_option linter.unusedVariables false
set_option maxRecDepth 100000

set_option maxHeartbeats 2000000 in
theorem rputOptions_any (l : List Tg) (v : Value) (w : World) (hl : TgsAt w v l) (hs : ∀ t ∈ l, t.s.size ≤ 140737488355328) :
    Calls Tryz.prog 33 #[v] w fun e w' => e = .returned (.tuple #[.string (putOpts l).1, .int .i64 (putOpts l).2]) ∧ Upd [] w w' := by
  obtain ⟨ao, cap, rfl, h1, h2, h3⟩ := id hl
  obtain ⟨n, hn⟩ : ∃ n, n = l.length := ⟨_, rfl⟩
  have HQ : Hid (putOpts l = (if 30 < n then (⟨#[]⟩, 2) else if l.any optWrong = true then (⟨#[]⟩, 1) else (encOpts l, 0))) := by show _ = _; rw [hn]; rfl
  rw [HQ.out]
  rw [← hn] at h1
  rw [← hn]
  have HL := Lib.hid hl
  have HN := Lib.hid hn
  have HS := Lib.hid hs
  simp only [maxLen] at h2
  clear h3 hl hn hs HQ
  by_cases t1 : 30 < n
  · rw [if_pos t1]
    have t1' : (30 : Int) < n := by omega
    go_enter Tryz.func33, Tryz.ntmps33
    go_wp2_with fail
    go_ret2
    exact ⟨rfl, Upd.refl _ _⟩
  rw [if_neg t1]
  have t1' : ¬ (30 : Int) < n := by omega
  obtain ⟨R, hR⟩ : ∃ R, R = (if l.any optWrong = true then ((⟨#[]⟩, 1) : ByteArray × Int) else (encOpts l, 0)) := ⟨_, rfl⟩
  rw [← hR]
  have HR := Lib.hid hR
  clear hR
  go_enter Tryz.func33, Tryz.ntmps33
  go_wp2_with fail
  go_loopg [4, 5] n (fun m s4 s5 wr => ∃ (k : Nat) (o : ByteArray), k + m = n ∧ s5 = .int .i64 k ∧ s4 = .string o ∧ o.size ≤ k * 255 ∧ o ++ encOpts (l.drop k) = encOpts l ∧ (∀ t ∈ l.take k, optWrong t = false) ∧ Upd [] w wr)
  case atStart => exact ⟨0, ⟨#[]⟩, by omega, rfl, rfl, by decide, ByteArray.empty_append, by simp, Upd.refl _ _⟩
  case round =>
    obtain ⟨k, o, hk, rfl, rfl, ho, hp, hw, hu⟩ := hrel
    have HU := Lib.hid hu
    by_cases t : k < n
    · obtain ⟨x, hx⟩ : ∃ x, l[k]? = some x := by
        have := HN.out
        exact ⟨_, List.getElem?_eq_getElem (by omega)⟩
      have hsz := HS.out x (List.mem_of_getElem? hx)
      obtain ⟨ao', cap', e0, _, _, h3⟩ := HL.out.upd hu
      injection e0 with e0 _ e2
      subst e0 e2
      obtain ⟨q, rfl, c0, c1⟩ := h3 k x hx
      clear h3
      have hd : l.drop k = x :: l.drop (k + 1) := by
        obtain ⟨h5, h6⟩ := List.getElem?_eq_some_iff.1 hx
        rw [List.drop_eq_getElem_cons h5, h6]
      have htk : l.take (k + 1) = l.take k ++ [x] := by
        obtain ⟨h5, h6⟩ := List.getElem?_eq_some_iff.1 hx
        rw [List.take_succ_eq_append_getElem h5, h6]
      rw [hd, encOpts, ← ByteArray.append_assoc] at hp
      have HP := Lib.hid (And.intro hp (And.intro hw htk))
      have HO := Lib.hid ho
      have hob : o.size ≤ 7650 := by have : k * 255 ≤ 30 * 255 := Nat.mul_le_mul_right _ (by omega); omega
      have HE : Hid (optWrong x = true → R = (⟨#[]⟩, 1)) := fun h => by
        rw [HR.out, if_pos (List.any_eq_true.2 ⟨x, List.mem_of_getElem? hx, h⟩)]
      clear hd htk hp hw ho hx
      by_cases t3 : x.k < 1
      · have HE2 : Hid (R = (⟨#[]⟩, 1)) := HE.out (by simp [optWrong]; omega)
        clear hu
        go_wp2_with fail
        go_ret2
        rw [HE2.out]
        exact ⟨rfl, HU.out⟩
      by_cases t4 : 255 < x.k
      · have HE2 : Hid (R = (⟨#[]⟩, 1)) := HE.out (by simp [optWrong]; omega)
        clear hu
        go_wp2_with fail
        go_ret2
        rw [HE2.out]
        exact ⟨rfl, HU.out⟩
      by_cases t5 : 253 < x.s.size
      · have HE2 : Hid (R = (⟨#[]⟩, 1)) := HE.out (by simp [optWrong]; omega)
        have t5' : (253 : Int) < x.s.size := by omega
        clear hu
        go_wp2_with fail
        go_ret2
        rw [HE2.out]
        exact ⟨rfl, HU.out⟩
      have t5' : ¬ (253 : Int) < x.s.size := by omega
      have HX4 : Hid (optWrong x = false) := by show _ = _; simp [optWrong]; omega
      have hcells : ∀ W, Upd [] wr W → W.cell? (q.add (k * 2)) = some (.int .i64 x.k) ∧ W.cell? ⟨(q.add (k * 2)).block, (q.add (k * 2)).off + 1, none⟩ = some (.string x.s) := fun W h =>
        ⟨(h.cell (cell_lt c0) (by simp)).trans c0, (h.cell (cell_lt c1) (by simp)).trans c1⟩
      have HW1 : Hid (IntKind.u8.wrap x.k = x.k) := by show x.k % 256 = x.k; omega
      have HW2 : Hid (IntKind.u8.wrap ((x.s.size : Int) + 2) = (x.s.size : Int) + 2) := by show ((x.s.size : Int) + 2) % 256 = _; omega
      clear hu
      go_wp2_with fail
      refine wp_region_facts (.pure) (trivial) [.is (.string o), .is (.slice (some q) n cap), .is (.int .i64 k), .is (.pointer (some (q.add (k * 2)))), .is (.pointer (some (q.add (k * 2)))), .is (.int .i64 x.k), .is (.int .u8 x.k), .is (.slice (some q) n cap), .is (.int .i64 k), .is (.pointer (some (q.add (k * 2)))), .is (.pointer (some ⟨(q.add (k * 2)).block, (q.add (k * 2)).off + 1, none⟩)), .is (.string x.s), .is (.int .i64 x.s.size), .is (.int .i64 ((x.s.size : Int) + 2)), .is (.int .u8 ((x.s.size : Int) + 2)), .made (0) (by simp [Env.pure]) 2 5 #[.int .u8 x.k, .int .u8 ((x.s.size : Int) + 2)], .is (.string (strOfNums [x.k, (x.s.size : Int) + 2])), .is (.string (o ++ strOfNums [x.k, (x.s.size : Int) + 2])), .is (.slice (some q) n cap), .is (.int .i64 k), .is (.pointer (some (q.add (k * 2)))), .is (.pointer (some ⟨(q.add (k * 2)).block, (q.add (k * 2)).off + 1, none⟩)), .is (.string x.s), .is (.string (o ++ strOfNums [x.k, (x.s.size : Int) + 2] ++ x.s)), .is (.string (o ++ strOfNums [x.k, (x.s.size : Int) + 2] ++ x.s))] (by kernel_rfl) (by kernel_rfl) (by kernel_rfl) (by kernel_rfl) ?_ ?_
      · refine Steps.cons ?_ (Steps.cons ?_ (Steps.cons ?_ (Steps.cons ?_ (Steps.cons ?_ (Steps.cons ?_ (Steps.cons ?_ (Steps.cons ?_ (Steps.cons ?_ (Steps.cons ?_ (Steps.cons ?_ (Steps.cons ?_ (Steps.cons ?_ (Steps.cons ?_ (Steps.cons ?_ (Steps.cons ?_ (Steps.cons ?_ (Steps.cons ?_ (Steps.cons ?_ (Steps.cons ?_ (Steps.cons ?_ (Steps.cons ?_ (Steps.cons ?_ (Steps.cons ?_ (Steps.cons ?_ Steps.nil))))))))))))))))))))))))
        · refine step_is _ rfl ⟨_, rfl⟩ rfl (fun _ _ => trivial) ?_
          intro a W hi hF hD
          have hu := hi.upd
          have e4 : a.tmps[4]?.getD undef = _ := (ev a 4).symm.trans (hF 4 (by kernel_rfl))
          clear hF hD
          have hc := hcells W hu
          go_simp
        · refine step_is _ rfl ⟨_, rfl⟩ rfl (fun _ _ => trivial) ?_
          intro a W hi hF hD
          have hu := hi.upd
          have e0 : a.tmps[0]?.getD undef = _ := (ev a 0).symm.trans (hF 0 (by kernel_rfl))
          clear hF hD
          have hc := hcells W hu
          go_simp
        · refine step_is _ rfl ⟨_, rfl⟩ rfl (fun _ _ => trivial) ?_
          intro a W hi hF hD
          have hu := hi.upd
          have e5 : a.tmps[5]?.getD undef = _ := (ev a 5).symm.trans (hF 5 (by kernel_rfl))
          clear hF hD
          have hc := hcells W hu
          go_simp
        · refine step_is _ rfl ⟨_, rfl⟩ rfl (fun _ _ => trivial) ?_
          intro a W hi hF hD
          have hu := hi.upd
          have e39 : a.tmps[39]?.getD undef = .slice (some q) n cap := (ev a 39).symm.trans (hD _ (Array.mem_of_getElem? (i := 0) rfl) rfl).1
          have e40 : a.tmps[40]?.getD undef = .int .i64 k := (ev a 40).symm.trans (hD _ (Array.mem_of_getElem? (i := 1) rfl) rfl).1
          clear hF hD
          have hc := hcells W hu
          go_simp
        · refine step_is _ rfl ⟨_, rfl⟩ rfl (fun _ _ => trivial) ?_
          intro a W hi hF hD
          have hu := hi.upd
          have e41 : a.tmps[41]?.getD undef = .pointer (some (q.add (k * 2))) := (ev a 41).symm.trans (hD _ (Array.mem_of_getElem? (i := 0) rfl) rfl).1
          clear hF hD
          have hc := hcells W hu
          go_simp
        · refine step_is _ rfl ⟨_, rfl⟩ rfl (fun _ _ => trivial) ?_
          intro a W hi hF hD
          have hu := hi.upd
          have e42 : a.tmps[42]?.getD undef = .pointer (some (q.add (k * 2))) := (ev a 42).symm.trans (hD _ (Array.mem_of_getElem? (i := 0) rfl) rfl).1
          clear hF hD
          have hc := hcells W hu
          go_simp
        · refine step_is _ rfl ⟨_, rfl⟩ rfl (fun _ _ => trivial) ?_
          intro a W hi hF hD
          have hu := hi.upd
          have e43 : a.tmps[43]?.getD undef = .int .i64 x.k := (ev a 43).symm.trans (hD _ (Array.mem_of_getElem? (i := 0) rfl) rfl).1
          clear hF hD
          have hc := hcells W hu
          have := HW1.out
          go_simp
        · refine step_is _ rfl ⟨_, rfl⟩ rfl (fun _ _ => trivial) ?_
          intro a W hi hF hD
          have hu := hi.upd
          have e0 : a.tmps[0]?.getD undef = _ := (ev a 0).symm.trans (hF 0 (by kernel_rfl))
          clear hF hD
          have hc := hcells W hu
          go_simp
        · refine step_is _ rfl ⟨_, rfl⟩ rfl (fun _ _ => trivial) ?_
          intro a W hi hF hD
          have hu := hi.upd
          have e5 : a.tmps[5]?.getD undef = _ := (ev a 5).symm.trans (hF 5 (by kernel_rfl))
          clear hF hD
          have hc := hcells W hu
          go_simp
        · refine step_is _ rfl ⟨_, rfl⟩ rfl (fun _ _ => trivial) ?_
          intro a W hi hF hD
          have hu := hi.upd
          have e45 : a.tmps[45]?.getD undef = .slice (some q) n cap := (ev a 45).symm.trans (hD _ (Array.mem_of_getElem? (i := 0) rfl) rfl).1
          have e46 : a.tmps[46]?.getD undef = .int .i64 k := (ev a 46).symm.trans (hD _ (Array.mem_of_getElem? (i := 1) rfl) rfl).1
          clear hF hD
          have hc := hcells W hu
          go_simp
        · refine step_is _ rfl ⟨_, rfl⟩ rfl (fun _ _ => trivial) ?_
          intro a W hi hF hD
          have hu := hi.upd
          have e47 : a.tmps[47]?.getD undef = .pointer (some (q.add (k * 2))) := (ev a 47).symm.trans (hD _ (Array.mem_of_getElem? (i := 0) rfl) rfl).1
          clear hF hD
          have hc := hcells W hu
          go_simp
        · refine step_is _ rfl ⟨_, rfl⟩ rfl (fun _ _ => trivial) ?_
          intro a W hi hF hD
          have hu := hi.upd
          have e48 : a.tmps[48]?.getD undef = .pointer (some ⟨(q.add (k * 2)).block, (q.add (k * 2)).off + 1, none⟩) := (ev a 48).symm.trans (hD _ (Array.mem_of_getElem? (i := 0) rfl) rfl).1
          clear hF hD
          have hc := hcells W hu
          go_simp
        · refine step_is _ rfl ⟨_, rfl⟩ rfl (fun _ _ => trivial) ?_
          intro a W hi hF hD
          have hu := hi.upd
          have e49 : a.tmps[49]?.getD undef = .string x.s := (ev a 49).symm.trans (hD _ (Array.mem_of_getElem? (i := 0) rfl) rfl).1
          clear hF hD
          have hc := hcells W hu
          go_simp
        · refine step_is _ rfl ⟨_, rfl⟩ rfl (fun _ _ => trivial) ?_
          intro a W hi hF hD
          have hu := hi.upd
          have e50 : a.tmps[50]?.getD undef = .int .i64 x.s.size := (ev a 50).symm.trans (hD _ (Array.mem_of_getElem? (i := 0) rfl) rfl).1
          clear hF hD
          have hc := hcells W hu
          go_simp
          exact IntWalk.i64_in _ (by omega)
        · refine step_is _ rfl ⟨_, rfl⟩ rfl (fun _ _ => trivial) ?_
          intro a W hi hF hD
          have hu := hi.upd
          have e51 : a.tmps[51]?.getD undef = .int .i64 ((x.s.size : Int) + 2) := (ev a 51).symm.trans (hD _ (Array.mem_of_getElem? (i := 0) rfl) rfl).1
          clear hF hD
          have hc := hcells W hu
          have := HW2.out
          go_simp
        · refine step_run rfl (fun _ _ => trivial) ?_
          intro a W hi hF hD
          have hu := hi.upd
          have e44 : a.tmps[44]?.getD undef = .int .u8 x.k := (ev a 44).symm.trans (hD _ (Array.mem_of_getElem? (i := 0) rfl) rfl).1
          have e52 : a.tmps[52]?.getD undef = .int .u8 ((x.s.size : Int) + 2) := (ev a 52).symm.trans (hD _ (Array.mem_of_getElem? (i := 1) rfl) rfl).1
          clear hF hD
          have hc := hcells W hu
          exact ⟨_, _, by (go_simp; first | done | rfl | exact ⟨rfl, rfl⟩), (Upd.refl _ _).alloc _, _, Nat.zero_le _, rfl, Blk.new _ _ _⟩
        · refine step_is _ rfl ⟨_, rfl⟩ rfl (fun _ _ => trivial) ?_
          intro a W hi hF hD
          have hu := hi.upd
          obtain ⟨g53, _, e53, b53⟩ : ∃ g, 0 ≤ g ∧ a.eval (.tmp 53) = .slice (some ⟨g, 0, none⟩) 2 2 ∧ Blk W g 5 #[.int .u8 x.k, .int .u8 ((x.s.size : Int) + 2)] := (hD _ (Array.mem_of_getElem? (i := 0) rfl) rfl).1
          rw [ev] at e53
          clear hF hD
          have hc := hcells W hu
          have hcv := str2 (P := Tryz.prog) (dst := 9) Tryz.underlying147 Tryz.underlying5 Tryz.underlying9 b53
          go_simp
        · refine step_is _ rfl ⟨_, rfl⟩ rfl (fun _ _ => trivial) ?_
          intro a W hi hF hD
          have hu := hi.upd
          have e38 : a.tmps[38]?.getD undef = .string o := (ev a 38).symm.trans (hD _ (Array.mem_of_getElem? (i := 0) rfl) rfl).1
          have e54 : a.tmps[54]?.getD undef = .string (strOfNums [x.k, (x.s.size : Int) + 2]) := (ev a 54).symm.trans (hD _ (Array.mem_of_getElem? (i := 1) rfl) rfl).1
          clear hF hD
          have hc := hcells W hu
          have := run_string_add_sum (P := Tryz.prog) W o (strOfNums [x.k, (x.s.size : Int) + 2]) (by rw [strOfNums_size]; simp; omega)
          go_simp
        · refine step_is _ rfl ⟨_, rfl⟩ rfl (fun _ _ => trivial) ?_
          intro a W hi hF hD
          have hu := hi.upd
          have e0 : a.tmps[0]?.getD undef = _ := (ev a 0).symm.trans (hF 0 (by kernel_rfl))
          clear hF hD
          have hc := hcells W hu
          go_simp
        · refine step_is _ rfl ⟨_, rfl⟩ rfl (fun _ _ => trivial) ?_
          intro a W hi hF hD
          have hu := hi.upd
          have e5 : a.tmps[5]?.getD undef = _ := (ev a 5).symm.trans (hF 5 (by kernel_rfl))
          clear hF hD
          have hc := hcells W hu
          go_simp
        · refine step_is _ rfl ⟨_, rfl⟩ rfl (fun _ _ => trivial) ?_
          intro a W hi hF hD
          have hu := hi.upd
          have e56 : a.tmps[56]?.getD undef = .slice (some q) n cap := (ev a 56).symm.trans (hD _ (Array.mem_of_getElem? (i := 0) rfl) rfl).1
          have e57 : a.tmps[57]?.getD undef = .int .i64 k := (ev a 57).symm.trans (hD _ (Array.mem_of_getElem? (i := 1) rfl) rfl).1
          clear hF hD
          have hc := hcells W hu
          go_simp
        · refine step_is _ rfl ⟨_, rfl⟩ rfl (fun _ _ => trivial) ?_
          intro a W hi hF hD
          have hu := hi.upd
          have e58 : a.tmps[58]?.getD undef = .pointer (some (q.add (k * 2))) := (ev a 58).symm.trans (hD _ (Array.mem_of_getElem? (i := 0) rfl) rfl).1
          clear hF hD
          have hc := hcells W hu
          go_simp
        · refine step_is _ rfl ⟨_, rfl⟩ rfl (fun _ _ => trivial) ?_
          intro a W hi hF hD
          have hu := hi.upd
          have e59 : a.tmps[59]?.getD undef = .pointer (some ⟨(q.add (k * 2)).block, (q.add (k * 2)).off + 1, none⟩) := (ev a 59).symm.trans (hD _ (Array.mem_of_getElem? (i := 0) rfl) rfl).1
          clear hF hD
          have hc := hcells W hu
          go_simp
        · refine step_is _ rfl ⟨_, rfl⟩ rfl (fun _ _ => trivial) ?_
          intro a W hi hF hD
          have hu := hi.upd
          have e55 : a.tmps[55]?.getD undef = .string (o ++ strOfNums [x.k, (x.s.size : Int) + 2]) := (ev a 55).symm.trans (hD _ (Array.mem_of_getElem? (i := 0) rfl) rfl).1
          have e60 : a.tmps[60]?.getD undef = .string x.s := (ev a 60).symm.trans (hD _ (Array.mem_of_getElem? (i := 1) rfl) rfl).1
          clear hF hD
          have hc := hcells W hu
          have := run_string_add_sum (P := Tryz.prog) W (o ++ strOfNums [x.k, (x.s.size : Int) + 2]) x.s (by rw [ByteArray.size_append, strOfNums_size]; simp; omega)
          go_simp
        · refine step_is _ rfl ⟨_, rfl⟩ rfl (fun _ _ => trivial) ?_
          intro a W hi hF hD
          have hu := hi.upd
          have e61 : a.tmps[61]?.getD undef = .string (o ++ strOfNums [x.k, (x.s.size : Int) + 2] ++ x.s) := (ev a 61).symm.trans (hD _ (Array.mem_of_getElem? (i := 0) rfl) rfl).1
          clear hF hD
          have hc := hcells W hu
          go_simp
      intro vals W hu hv
      have v0 : vals 0 = .string o := (hv 0 (by decide)).1
      have v1 : vals 1 = .slice (some q) n cap := (hv 1 (by decide)).1
      have v2 : vals 2 = .int .i64 k := (hv 2 (by decide)).1
      have v3 : vals 3 = .pointer (some (q.add (k * 2))) := (hv 3 (by decide)).1
      have v4 : vals 4 = .pointer (some (q.add (k * 2))) := (hv 4 (by decide)).1
      have v5 : vals 5 = .int .i64 x.k := (hv 5 (by decide)).1
      have v6 : vals 6 = .int .u8 x.k := (hv 6 (by decide)).1
      have v7 : vals 7 = .slice (some q) n cap := (hv 7 (by decide)).1
      have v8 : vals 8 = .int .i64 k := (hv 8 (by decide)).1
      have v9 : vals 9 = .pointer (some (q.add (k * 2))) := (hv 9 (by decide)).1
      have v10 : vals 10 = .pointer (some ⟨(q.add (k * 2)).block, (q.add (k * 2)).off + 1, none⟩) := (hv 10 (by decide)).1
      have v11 : vals 11 = .string x.s := (hv 11 (by decide)).1
      have v12 : vals 12 = .int .i64 x.s.size := (hv 12 (by decide)).1
      have v13 : vals 13 = .int .i64 ((x.s.size : Int) + 2) := (hv 13 (by decide)).1
      have v14 : vals 14 = .int .u8 ((x.s.size : Int) + 2) := (hv 14 (by decide)).1
      obtain ⟨g15, _, v15, b15⟩ : ∃ g, 0 ≤ g ∧ vals 15 = .slice (some ⟨g, 0, none⟩) 2 2 ∧ Blk W g 5 #[.int .u8 x.k, .int .u8 ((x.s.size : Int) + 2)] := (hv 15 (by decide)).1
      have v16 : vals 16 = .string (strOfNums [x.k, (x.s.size : Int) + 2]) := (hv 16 (by decide)).1
      have v17 : vals 17 = .string (o ++ strOfNums [x.k, (x.s.size : Int) + 2]) := (hv 17 (by decide)).1
      have v18 : vals 18 = .slice (some q) n cap := (hv 18 (by decide)).1
      have v19 : vals 19 = .int .i64 k := (hv 19 (by decide)).1
      have v20 : vals 20 = .pointer (some (q.add (k * 2))) := (hv 20 (by decide)).1
      have v21 : vals 21 = .pointer (some ⟨(q.add (k * 2)).block, (q.add (k * 2)).off + 1, none⟩) := (hv 21 (by decide)).1
      have v22 : vals 22 = .string x.s := (hv 22 (by decide)).1
      have v23 : vals 23 = .string (o ++ strOfNums [x.k, (x.s.size : Int) + 2] ++ x.s) := (hv 23 (by decide)).1
      have v24 : vals 24 = .string (o ++ strOfNums [x.k, (x.s.size : Int) + 2] ++ x.s) := (hv 24 (by decide)).1
      clear hv
      simp only [putAll, Act.put, Nat.zero_add, Nat.reduceAdd, v0, v1, v2, v3, v4, v5, v6, v7, v8, v9, v10, v11, v12, v13, v14, v15, v16, v17, v18, v19, v20, v21, v22, v23, v24, List.setIfInBounds_toArray, List.set_cons_zero, List.set_cons_succ]
      clear v0 v1 v2 v3 v4 v5 v6 v7 v8 v9 v10 v11 v12 v13 v14 v15 v16 v17 v18 v19 v20 v21 v22 v23 v24
      have HU3 := Lib.hid (HU.out.trans hu)
      clear hu hcells
      go_wp2_with fail
      go_roundg (n - (k + 1))
      case rel =>
        obtain ⟨hp, hw, htk⟩ := HP.out
        refine ⟨k + 1, _, by omega, by go_num, rfl, ?_, ?_, ?_, HU3.out⟩
        · have := HO.out
          rw [ByteArray.size_append, ByteArray.size_append, strOfNums_size]
          simp
          omega
        · have e : o ++ strOfNums [x.k, (x.s.size : Int) + 2] ++ x.s = o ++ x.obytes := ByteArray.append_assoc
          rw [e]
          exact hp
        · rw [htk]
          intro t ht
          rcases List.mem_append.1 ht with ht | ht
          · exact hw t ht
          · simp at ht; subst ht; exact HX4.out
      case measure => omega
    · obtain rfl : k = n := by omega
      have hd : l.drop k = [] := by rw [HN.out]; simp
      rw [hd] at hp
      have hp2 : o = encOpts l := by
        have : encOpts [] = ByteArray.empty := rfl
        rw [this, ByteArray.append_empty] at hp
        exact hp
      rw [List.take_of_length_le (by have := HN.out; omega)] at hw
      have hany : l.any optWrong = false := by
        rw [List.any_eq_false]
        intro t ht
        rw [hw t ht]; simp
      have HE : Hid (R = (o, 0)) := by
        show _ = _
        rw [HR.out, hany, if_neg (by simp), hp2]
      clear hp hd hp2 hw hany hu
      go_wp2_with fail
      go_ret2
      rw [HE.out]
      exact ⟨rfl, HU.out⟩

set_option maxHeartbeats 4000000 in
theorem rgetOptions_any (b : ByteArray) (hb : b.size ≤ 140737488355328) (w : World) :
    Calls Tryz.prog 117 #[.string b] w (GivesTgs (getOpts b) w) := by
  obtain ⟨i0, hi0, hz0, hz1, hz2⟩ := info_parts info_opt
  go_enter Tryz.func117, Tryz.ntmps117
  go_wp2
  go_loopg [0, 4, 5] b.size (fun m s0 s4 s5 wr => ∃ (M : Nat) (s : ByteArray) (out : List Tg) (ao : Option Addr) (cap : Nat) (own : List Nat), m = M ∧ s0 = .string s ∧ s4 = .slice ao out.length cap ∧ s.size ≤ M ∧ s.size ≤ b.size ∧ out.length ≤ 30 ∧
    Own wr 131 2 (.slice ao out.length cap) out.length (tgCells out) own ∧ (∀ k, k ∈ own → w.heap.size ≤ k) ∧ getOptFrom M s out = getOpts b ∧ Upd [] w wr)
  case atStart => exact ⟨b.size, b, [], none, 0, [], rfl, rfl, rfl, Nat.le_refl _, Nat.le_refl _, by simp, Own.nil _ _ _, by simp, rfl, Upd.refl _ _⟩
  case round =>
    obtain ⟨M, s, out, ao, cap, own, hM, rfl, rfl, hm, hsb, ho, hown, hin, hg, hu⟩ := hrel
    obtain ⟨n, hn⟩ : ∃ n, n = out.length := ⟨_, rfl⟩
    have HN := Lib.hid hn
    have HMM := Lib.hid hM
    clear hM
    by_cases t0 : s.size = 0
    · rw [getOptFrom_zero M s out t0] at hg
      have HG := Lib.hid hg
      have e0 : ¬ (0 : Int) < s.size := by omega
      have HO := Lib.hid hown
      have T0 := Lib.hid t0
      clear hg hown t0 hn
      go_wp2
      go_ret2
      rw [← HG.out]
      exact ⟨_, own, rfl, HO.out, hin, hu⟩
    rw [getOptFrom_step M s out hm t0] at hg
    have e0 : (0 : Int) < s.size := by omega
    by_cases t1 : s.size = 1
    · rw [if_pos t1] at hg
      have HG := Lib.hid hg
      have HO := Lib.hid hown
      have T0 := Lib.hid t0
      have q1 : ((s.size : Int) == 1) = true := by simp; omega
      clear hg hown hn t0 t1
      go_wp2_with fail
      go_ret2
      rw [← HG.out]
      exact ⟨_, [], rfl, Own.nil _ _ _, by simp, hu⟩
    rw [if_neg t1] at hg
    have q1 : ((s.size : Int) == 1) = false := by simp; omega
    have hs2 : 2 ≤ s.size := by omega
    have hb0 := byte_get s 0 (by omega)
    have hb1 := byte_get s 1 (by omega)
    have hy0 := byte_bd s 0
    have hy1 := byte_bd s 1
    rw [← hb0] at hy0 hg
    rw [← hb1] at hy1 hg
    have HB0 := Lib.hid hb0
    have HB1 := Lib.hid hb1
    clear t0 t1 hb0 hb1
    by_cases t2 : (s[0].toNat : Int) = 0
    · rw [if_pos (.inl t2)] at hg
      have HG := Lib.hid hg
      have HO := Lib.hid hown
      have q2 : ((s[0].toNat : Int) == 0) = true := by simpa using t2
      clear hg hown hn t2
      go_wp2_with fail
      go_ret2
      rw [← HG.out]
      exact ⟨_, [], rfl, Own.nil _ _ _, by simp, hu⟩
    have q2 : ((s[0].toNat : Int) == 0) = false := by simpa using t2
    by_cases t3 : (s[1].toNat : Int) < 2
    · rw [if_pos (.inr t3)] at hg
      have HG := Lib.hid hg
      have HO := Lib.hid hown
      clear hg hown hn t2
      go_wp2_with fail
      go_ret2
      rw [← HG.out]
      exact ⟨_, [], rfl, Own.nil _ _ _, by simp, hu⟩
    rw [if_neg (by omega)] at hg
    obtain ⟨j, hj⟩ : ∃ j : Nat, s[1].toNat = j := ⟨_, rfl⟩
    have HJ : Hid ((s[1].toNat : Int) = (j : Int)) := by show _ = _; rw [hj]
    have hwr : True → wrap64 (s[1].toNat : Int) = (j : Int) := fun _ => by rw [HJ.out]; exact IntWalk.wrap64_in _ (by omega)
    rw [hj] at hg hy1
    rw [Int.toNat_natCast] at hg
    have t3' : ¬ (j : Int) < 2 := by omega
    by_cases t4 : (s.size : Int) < (j : Int)
    · rw [if_pos t4] at hg
      have HG := Lib.hid hg
      have HO := Lib.hid hown
      clear hg hown hn t2 hj
      go_wp2_with fail
      go_ret2
      rw [← HG.out]
      exact ⟨_, [], rfl, Own.nil _ _ _, by simp, hu⟩
    rw [if_neg t4] at hg
    by_cases t5 : 30 ≤ out.length
    · rw [if_pos t5] at hg
      have HG := Lib.hid hg
      have HO := Lib.hid hown
      have t5' : (30 : Int) ≤ n := by omega
      rw [← hn]
      clear hg hown hn t2 hj
      go_wp2_with fail
      go_ret2
      rw [← HG.out]
      exact ⟨_, [], rfl, Own.nil _ _ _, by simp, hu⟩
    rw [if_neg t5] at hg
    have t5' : ¬ (30 : Int) ≤ n := by omega
    have HG := Lib.hid hg
    have HO := Lib.hid (hn ▸ hown)
    rw [← hn]
    clear hg hown hn t2 hj t5
    go_wp2_with fail
    clear hwr
    have hxs : (s.extract 2 j).size ≤ 281474976710656 := by rw [ByteArray.size_extract]; omega
    obtain ⟨X, hX⟩ : ∃ X, X = s.extract 2 j := ⟨_, rfl⟩
    rw [← hX] at hxs HG
    have HX := Lib.hid hX
    have HXS := Lib.hid hxs
    have HU := Lib.hid hu
    have hlt := HO.out.lt
    have HLT := Lib.hid hlt
    have HIN := Lib.hid hin
    obtain ⟨y, hy⟩ : ∃ y : Int, y = byte s 0 := ⟨_, rfl⟩
    have HY : Hid ((s[0].toNat : Int) = y) := by show _ = _; rw [hy]; exact HB0.out
    rw [HY.out] at HG
    have hyb : 0 ≤ y ∧ y < 256 := by rw [hy]; exact byte_bd s 0
    clear hX hxs hu hlt hin hy hy0 q2 t3
    refine wp_region_facts (.grow 9 10 131 2 wr.heap.size (.slice ao n cap) n (tgCells out) own (n + 1) (tgCells out ++ [.int .i64 y, .string X])) (HO.out) [.is (.slice ao n cap), .is (.string s), .is (.int .u8 y), .is (.int .i64 y), .is (.string s), .is (.int .i64 j), .is (.string X), .is (.agg #[.int .i64 y, .string X]), .made (wr.heap.size) (by exact HLT.out) 1 131 #[.int .i64 y, .string X], .any, .any] (by kernel_rfl) (by kernel_rfl) (by kernel_rfl) (by kernel_rfl) ?_ ?_
    · refine Steps.cons ?_ (Steps.cons ?_ (Steps.cons ?_ (Steps.cons ?_ (Steps.cons ?_ (Steps.cons ?_ (Steps.cons ?_ (Steps.cons ?_ (Steps.cons ?_ (Steps.cons ?_ (Steps.cons ?_ Steps.nil))))))))))
      · refine step_is _ rfl ⟨_, rfl⟩ rfl (fun _ _ => trivial) ?_
        intro a W hi hF hD
        have hu := hi.upd
        have e4 : a.tmps[4]?.getD undef = _ := (ev a 4).symm.trans (hF 4 (by kernel_rfl))
        clear hF hD
        go_simp
      · refine step_is _ rfl ⟨_, rfl⟩ rfl (fun _ _ => trivial) ?_
        intro a W hi hF hD
        have hu := hi.upd
        have e0 : a.tmps[0]?.getD undef = _ := (ev a 0).symm.trans (hF 0 (by kernel_rfl))
        clear hF hD
        go_simp
      · refine step_is _ rfl ⟨_, rfl⟩ rfl (fun _ _ => trivial) ?_
        intro a W hi hF hD
        have hu := hi.upd
        have e30 : a.tmps[30]?.getD undef = .string s := (ev a 30).symm.trans (hD _ (Array.mem_of_getElem? (i := 0) rfl) rfl).1
        clear hF hD
        have := HY.out
        go_simp
      · refine step_is _ rfl ⟨_, rfl⟩ rfl (fun _ _ => trivial) ?_
        intro a W hi hF hD
        have hu := hi.upd
        have e31 : a.tmps[31]?.getD undef = .int .u8 y := (ev a 31).symm.trans (hD _ (Array.mem_of_getElem? (i := 0) rfl) rfl).1
        clear hF hD
        go_simp
        exact IntWalk.i64_in _ (by omega)
      · refine step_is _ rfl ⟨_, rfl⟩ rfl (fun _ _ => trivial) ?_
        intro a W hi hF hD
        have hu := hi.upd
        have e0 : a.tmps[0]?.getD undef = _ := (ev a 0).symm.trans (hF 0 (by kernel_rfl))
        clear hF hD
        go_simp
      · refine step_is _ rfl ⟨_, rfl⟩ rfl (fun _ _ => trivial) ?_
        intro a W hi hF hD
        have hu := hi.upd
        have e5 : a.tmps[5]?.getD undef = _ := (ev a 5).symm.trans (hF 5 (by kernel_rfl))
        clear hF hD
        have hwr : True → wrap64 (s[1].toNat : Int) = (j : Int) := fun _ => by rw [HJ.out]; exact IntWalk.wrap64_in _ (by omega)
        go_simp
      · refine step_is _ rfl ⟨_, rfl⟩ rfl (fun _ _ => trivial) ?_
        intro a W hi hF hD
        have hu := hi.upd
        have e33 : a.tmps[33]?.getD undef = .string s := (ev a 33).symm.trans (hD _ (Array.mem_of_getElem? (i := 0) rfl) rfl).1
        have e34 : a.tmps[34]?.getD undef = .int .i64 j := (ev a 34).symm.trans (hD _ (Array.mem_of_getElem? (i := 1) rfl) rfl).1
        clear hF hD
        have := HX.out
        go_simp
      · refine step_is _ rfl ⟨_, rfl⟩ rfl (fun _ _ => trivial) ?_
        intro a W hi hF hD
        have hu := hi.upd
        have e32 : a.tmps[32]?.getD undef = .int .i64 y := (ev a 32).symm.trans (hD _ (Array.mem_of_getElem? (i := 0) rfl) rfl).1
        have e35 : a.tmps[35]?.getD undef = .string X := (ev a 35).symm.trans (hD _ (Array.mem_of_getElem? (i := 1) rfl) rfl).1
        clear hF hD
        go_simp
      · refine step_run rfl (fun _ _ => trivial) ?_
        intro a W hi hF hD
        have hu := hi.upd
        have e36 : a.tmps[36]?.getD undef = .agg #[.int .i64 y, .string X] := (ev a 36).symm.trans (hD _ (Array.mem_of_getElem? (i := 0) rfl) rfl).1
        clear hF hD
        exact ⟨_, _, by (go_simp; first | done | rfl | exact ⟨rfl, rfl⟩), (Upd.refl _ _).alloc _, _, hu.size, rfl, Blk.new _ _ _⟩
      · refine step_gen rfl ⟨_, rfl⟩ ?_
        intro a W hi hF hD
        have hu := hi.upd
        have e29 : a.tmps[29]?.getD undef = .slice ao n cap := (ev a 29).symm.trans (hD _ (Array.mem_of_getElem? (i := 0) rfl) rfl).1
        obtain ⟨g37, _, e37, b37⟩ : ∃ g, wr.heap.size ≤ g ∧ a.eval (.tmp 37) = .slice (some ⟨g, 0, none⟩) 1 1 ∧ Blk W g 131 #[.int .i64 y, .string X] := (hD _ (Array.mem_of_getElem? (i := 1) rfl) rfl).1
        rw [ev] at e37
        clear hF hD
        obtain ⟨g, off, cap2, w2, own2, r1, r2, r3, r4, r5⟩ := run_append_keep (P := Tryz.prog) W 22 22 131 i0 _ 2 24 Tryz.underlying22 hi0 hz0 hz1 hz2 rfl (by decide) (.slice ao n cap) n (tgCells out) own hi.hold ⟨g37, 0, none⟩ 1 1 [.int .i64 y, .string X] rfl (World.news_of_block b37) (by simp [Value.oneCell']) (by decide) (by simp only [maxLen]; omega) (by omega)
        exact ⟨_, w2, exec_append rfl (by rw [ev]; exact e29) (by rw [ev]; exact e37) r1, Env.grow_set hu r4 r5 ⟨g, off, cap2, own2, rfl, r2, fun k hk => (r3 k hk).imp id (Nat.le_trans hu.size)⟩⟩
      · refine step_gen rfl ⟨_, rfl⟩ ?_
        intro a W hi hF hD
        have hu := hi.upd
        have d38 := (hD _ (Array.mem_of_getElem? (i := 0) rfl) rfl).2
        clear hF hD
        exact ⟨_, W, by (go_simp; first | done | rfl | exact ⟨rfl, rfl⟩), Env.grow_on hi (by rw [← ev]; exact d38)⟩
    intro vals W hu hv
    have v0 : vals 0 = .slice ao n cap := (hv 0 (by decide)).1
    have v1 : vals 1 = .string s := (hv 1 (by decide)).1
    have v2 : vals 2 = .int .u8 y := (hv 2 (by decide)).1
    have v3 : vals 3 = .int .i64 y := (hv 3 (by decide)).1
    have v4 : vals 4 = .string s := (hv 4 (by decide)).1
    have v5 : vals 5 = .int .i64 j := (hv 5 (by decide)).1
    have v6 : vals 6 = .string X := (hv 6 (by decide)).1
    have v7 : vals 7 = .agg #[.int .i64 y, .string X] := (hv 7 (by decide)).1
    obtain ⟨g8, _, v8, b8⟩ : ∃ g, wr.heap.size ≤ g ∧ vals 8 = .slice (some ⟨g, 0, none⟩) 1 1 ∧ Blk W g 131 #[.int .i64 y, .string X] := (hv 8 (by decide)).1
    have v9 := (hv 9 (by decide)).2
    have v10 := (hv 10 (by decide)).2
    clear hv
    obtain ⟨g, off, cap2, own2, q10, ho2, hin2⟩ := Env.grow_get 10 rfl v10
    simp only [putAll, Act.put, Nat.zero_add, Nat.reduceAdd, q10, v0, v1, v2, v3, v4, v5, v6, v7, v8, List.setIfInBounds_toArray, List.set_cons_zero, List.set_cons_succ]
    clear v0 v1 v2 v3 v4 v5 v6 v7 v8
    rw [q10] at ho2
    have HO2 := Lib.hid ho2
    have HIN2 := Lib.hid hin2
    have HU2 := Lib.hid (show Upd own wr W from hu)
    have hwz : w.heap.size ≤ wr.heap.size := HU.out.size
    have hwr : True → wrap64 (s[1].toNat : Int) = (j : Int) := fun _ => by rw [HJ.out]; exact IntWalk.wrap64_in _ (by omega)
    clear ho2 hin2 hu v9 v10 q10
    go_wp2
    go_roundg (M - 1)
    case rel =>
      have hin3 : ∀ k, k ∈ own2 → w.heap.size ≤ k := fun k hk => by
        rcases HIN2.out k hk with h | h
        · exact HIN.out k h
        · omega
      refine ⟨M - 1, s.extract j s.size, out ++ [⟨y, X⟩], some ⟨g, off, none⟩, cap2, own2, rfl, rfl, by rw [List.length_append, List.length_singleton, ← HN.out], by rw [ByteArray.size_extract]; omega, by rw [ByteArray.size_extract]; omega, by rw [List.length_append, List.length_singleton, ← HN.out]; omega, ?_, hin3, HG.out, ?_⟩
      · rw [List.length_append, List.length_singleton, ← HN.out, tgCells_snoc]; exact HO2.out
      · exact HU.out.trans' HU2.out (fun x hx => .inr (HIN.out x hx))
    case measure => have := HMM.out; omega

set_option maxHeartbeats 1000000 in
theorem rsameO_any (l m : List Tg) (v u : Value) (w : World) (hl : TgsAt w v l) (hm : TgsAt w u m) :
    Calls Tryz.prog 36 #[v, u] w fun e w' => e = .returned (.bool (decide (l = m))) ∧ Upd [] w w' := by
  obtain ⟨ao, cap, rfl, h1, h2, h3⟩ := id hl
  obtain ⟨bo, cbp, rfl, g1, g2, g3⟩ := id hm
  obtain ⟨n, hn⟩ : ∃ n, n = l.length := ⟨_, rfl⟩
  obtain ⟨j, hj⟩ : ∃ n, n = m.length := ⟨_, rfl⟩
  rw [← hn] at h1
  rw [← hj] at g1
  rw [← hn, ← hj]
  have HL := Lib.hid hl
  have HM := Lib.hid hm
  have HN := Lib.hid hn
  have HJ := Lib.hid hj
  simp only [maxLen] at h2 g2
  clear h3 g3 hl hn hm hj
  by_cases tn : n = j
  rotate_left
  · have hne : Hid (decide (l = m) = false) := by
      show _ = _
      rw [decide_eq_false_iff_not]
      rintro rfl
      exact tn (HN.out.trans HJ.out.symm)
    rw [hne.out]
    go_enter Tryz.func36, Tryz.ntmps36
    go_wp2
    go_ret
    exact ⟨rfl, Upd.refl _ _⟩
  subst tn
  go_enter Tryz.func36, Tryz.ntmps36
  go_wp2
  go_loopg [5] n (fun x s5 wr => ∃ k : Nat, k + x = n ∧ s5 = .int .i64 k ∧ l.take k = m.take k ∧ Upd [] w wr)
  case atStart => exact ⟨0, by omega, rfl, rfl, Upd.refl _ _⟩
  case round =>
    obtain ⟨k, hk, rfl, hp, hu⟩ := hrel
    by_cases t : k < n
    · obtain ⟨x, hx⟩ : ∃ x, l[k]? = some x := by
        have := HN.out
        exact ⟨_, List.getElem?_eq_getElem (by omega)⟩
      obtain ⟨y, hy⟩ : ∃ x, m[k]? = some x := by
        have := HJ.out
        exact ⟨_, List.getElem?_eq_getElem (by omega)⟩
      obtain ⟨ao', cap', e0, _, _, h3⟩ := HL.out.upd hu
      injection e0 with e0 _ e2
      subst e0 e2
      obtain ⟨q, rfl, c0, c1⟩ := h3 k x hx
      clear h3
      obtain ⟨ao', cap', e0, _, _, h3⟩ := HM.out.upd hu
      injection e0 with e0 _ e2
      subst e0 e2
      obtain ⟨q', rfl, d0, d1⟩ := h3 k y hy
      clear h3
      have HX := Lib.hid (And.intro hx (And.intro hy (And.intro hp hu)))
      clear hx hy hp hu
      go_wp2
      by_cases hk : x.k = y.k ∧ x.s.toList = y.s.toList
      · obtain ⟨hk1, hk2⟩ := hk
        go_region
        go_wp2
        go_roundg (n - (k + 1))
        case rel =>
          refine ⟨k + 1, by omega, by go_num, ?_, HX.out.2.2.2.drew⟩
          rw [List.take_add_one, List.take_add_one, HX.out.2.2.1, HX.out.1, HX.out.2.1]
          have : x = y := by
            cases x; cases y
            simp only [str_inj] at hk1 hk2
            rw [hk1, hk2]
          rw [this]
        case measure => omega
      · have he : Hid (decide (l = m) = false) := by
          show _ = _
          rw [decide_eq_false_iff_not]
          rintro rfl
          have := HX.out.1.symm.trans HX.out.2.1
          injection this with this
          subst this
          exact hk ⟨rfl, rfl⟩
        by_cases hk1 : x.k = y.k
        · have hk2 : ¬ x.s.toList = y.s.toList := fun h => hk ⟨hk1, h⟩
          clear hk
          go_region
          go_wp2
          go_ret
          rw [he.out]
          exact ⟨rfl, HX.out.2.2.2.drew⟩
        · clear hk
          go_region
          go_wp2
          go_ret
          rw [he.out]
          exact ⟨rfl, HX.out.2.2.2.drew⟩
    · obtain rfl : k = n := by omega
      have he : Hid (decide (l = m) = true) := by
        show _ = _
        rw [decide_eq_true_iff]
        have h7 := hp
        rw [List.take_of_length_le (by rw [← HN.out]; exact Nat.le_refl _), List.take_of_length_le (by rw [← HJ.out]; exact Nat.le_refl _)] at h7
        exact h7
      clear hp
      go_wp2
      go_ret
      rw [he.out]
      exact ⟨rfl, hu⟩

end Go.Proofs.YtljiichcmljbgaaGreat
