/- The walk of the document's own Put (chapter 10). -/
import Derived.Test.YthkfgjmifoeljaaGreatOptR
namespace Go.Proofs.YthkfgjmifoeljaaGreat
open Go.RowKit
set_option linter.unusedSimpArgs false
set_option linter.unusedVariables false
set_option maxRecDepth 100000

set_option maxHeartbeats 4000000 in
theorem rput_any (p : Pk) (v : Value) (w : World) (hl : TgsAt w v p.opts) (hls : ∀ t ∈ p.opts, t.s.size ≤ 140737488355328) (hd : p.data.size ≤ 140737488355328) :
    Calls Tryz.prog 8 #[p.val v] w fun e w' => e = .returned (.tuple #[.string p.put.1, .int .i64 p.put.2]) ∧ Upd [] w w' := by
  obtain ⟨ao, cap, rfl, -, -, -⟩ := id hl
  obtain ⟨c, i, l, d⟩ := p
  simp only at hl hls hd
  obtain ⟨n, hn⟩ : ∃ n, n = l.length := ⟨_, rfl⟩
  obtain ⟨hb, hhb⟩ : ∃ x, x = hasOpts c := ⟨_, rfl⟩
  have HB := Lib.hid hhb.symm
  obtain ⟨P0, P1, hp⟩ : ∃ b e, putOpts l = (b, e) := ⟨_, _, rfl⟩
  have HP := Lib.hid hp
  have HPS : Hid (P0.size ≤ 7650) := by have := putOpts_size l; rw [hp] at this; exact this
  have HPZ : Hid (n = 0 → P0 = ⟨#[]⟩ ∧ P1 = 0) := fun h => by
    have : l = [] := List.eq_nil_of_length_eq_zero (by omega)
    subst this
    have h2 : putOpts [] = (⟨#[]⟩, 0) := rfl
    rw [hp] at h2
    exact Prod.mk.inj h2
  have HQ : Hid (Pk.put ⟨c, i, l, d⟩ = if (numberedB c i = false ∨ (0 < n ∧ hb = false) ∨ (d.size ≠ 0 ∧ hb = true)) then (⟨#[]⟩, 1) else if P1 ≠ 0 then (⟨#[]⟩, P1) else layB c i (P0 ++ d)) := by
    show _ = _
    simp only [Pk.put, hp]
    have e1 : (Pk.bad ⟨c, i, l, d⟩ = true) ↔ (numberedB c i = false ∨ (0 < n ∧ hb = false) ∨ (d.size ≠ 0 ∧ hb = true)) := by
      simp only [Pk.bad, ← hn, ← hhb]
      cases numberedB c i <;> cases hb <;> simp [Nat.pos_iff_ne_zero]
    by_cases h : Pk.bad ⟨c, i, l, d⟩ = true
    · rw [if_pos h, if_pos (e1.1 h)]
    · rw [if_neg h, if_neg (fun x => h (e1.2 x))]
  simp only [Pk.val]
  show Calls _ _ #[.agg #[.int .i64 c, .int .i64 i, .slice ao l.length cap, .string d]] w _
  rw [HQ.out, ← hn]
  rw [← hn] at hl
  have HL := Lib.hid hl
  have HLS := Lib.hid hls
  have HN := Lib.hid hn
  clear HQ hp hhb hl hls hn
  by_cases a1 : c < 0
  · have hbad : numberedB c i = false ∨ (0 < n ∧ hb = false) ∨ (d.size ≠ 0 ∧ hb = true) := .inl (by rw [numbered_parts]; omega)
    rw [if_pos hbad]
    clear hbad
    go_enter Tryz.func8, Tryz.ntmps8
    go_wp2_with fail
    go_ret2
    exact ⟨rfl, (Upd.refl _ _).alloc _⟩

  by_cases a2 : 255 < c
  · have hbad : numberedB c i = false ∨ (0 < n ∧ hb = false) ∨ (d.size ≠ 0 ∧ hb = true) := .inl (by rw [numbered_parts]; omega)
    rw [if_pos hbad]
    clear hbad
    go_enter Tryz.func8, Tryz.ntmps8
    go_wp2_with fail
    go_ret2
    exact ⟨rfl, (Upd.refl _ _).alloc _⟩

  by_cases a3 : i < 0
  · have hbad : numberedB c i = false ∨ (0 < n ∧ hb = false) ∨ (d.size ≠ 0 ∧ hb = true) := .inl (by rw [numbered_parts]; omega)
    rw [if_pos hbad]
    clear hbad
    go_enter Tryz.func8, Tryz.ntmps8
    go_wp2_with fail
    go_ret2
    exact ⟨rfl, (Upd.refl _ _).alloc _⟩

  by_cases a4 : 255 < i
  · have hbad : numberedB c i = false ∨ (0 < n ∧ hb = false) ∨ (d.size ≠ 0 ∧ hb = true) := .inl (by rw [numbered_parts]; omega)
    rw [if_pos hbad]
    clear hbad
    go_enter Tryz.func8, Tryz.ntmps8
    go_wp2_with fail
    go_ret2
    exact ⟨rfl, (Upd.refl _ _).alloc _⟩

  have HNB : Hid (numberedB c i ≠ false) := fun h => by rw [numbered_parts] at h; omega
  by_cases b1 : 0 < n ∧ hb = false
  · obtain ⟨n0, rfl⟩ := b1
    have n0' : (0 : Int) < n := by omega
    have hbad : numberedB c i = false ∨ (0 < n ∧ false = false) ∨ (d.size ≠ 0 ∧ false = true) := .inr (.inl ⟨n0, rfl⟩)
    rw [if_pos hbad]
    clear hbad
    go_enter Tryz.func8, Tryz.ntmps8
    go_wp2_with (go_at_call 33; refine (rconf_any _ _).mono ?_; rintro e w1 ⟨rfl, rfl⟩; rw [HB.out])
    go_ret2
    exact ⟨rfl, (Upd.refl _ _).alloc _⟩

  by_cases b2 : d.size ≠ 0 ∧ hb = true
  · obtain ⟨d0, rfl⟩ := b2
    have e0 := str_empty_f d0
    have hbad : numberedB c i = false ∨ (0 < n ∧ true = false) ∨ (d.size ≠ 0 ∧ true = true) := .inr (.inr ⟨d0, rfl⟩)
    by_cases n0 : 0 < n
    · have n0' : (0 : Int) < n := by omega
      clear d0
      rw [if_pos hbad]
      clear hbad
      go_enter Tryz.func8, Tryz.ntmps8
      go_wp2_with (go_at_call 33; refine (rconf_any _ _).mono ?_; rintro e w1 ⟨rfl, rfl⟩; rw [HB.out])
      go_ret2
      exact ⟨rfl, (Upd.refl _ _).alloc _⟩

    · obtain rfl : n = 0 := by omega
      clear d0 n0
      rw [if_pos hbad]
      clear hbad
      go_enter Tryz.func8, Tryz.ntmps8
      go_wp2_with (go_at_call 33; refine (rconf_any _ _).mono ?_; rintro e w1 ⟨rfl, rfl⟩; rw [HB.out])
      go_ret2
      exact ⟨rfl, (Upd.refl _ _).alloc _⟩

  have HNBAD : Hid (¬ (numberedB c i = false ∨ (0 < n ∧ hb = false) ∨ (d.size ≠ 0 ∧ hb = true))) := fun h => by
    rcases h with h | h | h
    · exact HNB.out h
    · exact b1 h
    · exact b2 h
  rw [if_neg HNBAD.out]
  cases hb with
  | false =>
    have n0 : n = 0 := by
      rcases Nat.eq_zero_or_pos n with h | h
      · exact h
      · exact absurd ⟨h, rfl⟩ b1
    obtain ⟨z0, z1⟩ := HPZ.out n0
    subst z0 z1
    rw [if_neg (by simp)]
    have hcat : (⟨#[]⟩ : ByteArray) ++ d = d := ByteArray.empty_append
    rw [hcat]
    subst n0
    clear hcat b1 b2 HNBAD
    by_cases d0 : d.size = 0
    · have e0 := str_empty_t d0
      have D0 := Lib.hid d0
      clear d0
      by_cases t1 : 1488 < (d).size
      · have HQ : Hid (layB c i (d) = (⟨#[]⟩, 2)) := if_pos t1
        rw [HQ.out]
        have t1' : (1488 : Int) < (d).size := by omega
        go_enter Tryz.func8, Tryz.ntmps8
        go_wp2_with (go_at_call 33; refine (rconf_any _ _).mono ?_; rintro e w1 ⟨rfl, rfl⟩; rw [HB.out])
        go_ret2
        exact ⟨rfl, (Upd.refl _ _).alloc _⟩
      have HQ : Hid (layB c i (d) = (strOfNums [c % 256, i % 256] ++ be 2 ((d).size + 4) ++ (d), 0)) := if_neg t1
      rw [HQ.out]
      have t1' : ¬ (1488 : Int) < (d).size := by omega
      clear HQ
      go_enter Tryz.func8, Tryz.ntmps8
      go_wp2_with (go_at_call 33; refine (rconf_any _ _).mono ?_; rintro e w1 ⟨rfl, rfl⟩; rw [HB.out])
      have HU2 : Hid (Upd [] w (w.alloc (Obj.cells #[Value.int IntKind.i64 c, Value.int IntKind.i64 i, Value.slice ao (0 : Nat) cap, Value.string d] 24))) := (Upd.refl [] w).alloc _
      have HA2 : Hid (Blk (w.alloc (Obj.cells #[Value.int IntKind.i64 c, Value.int IntKind.i64 i, Value.slice ao (0 : Nat) cap, Value.string d] 24)) w.heap.size 24 #[Value.int IntKind.i64 c, Value.int IntKind.i64 i, Value.slice ao (0 : Nat) cap, Value.string d]) := Blk.new _ _ _
      generalize w.alloc (Obj.cells #[Value.int IntKind.i64 c, Value.int IntKind.i64 i, Value.slice ao (0 : Nat) cap, Value.string d] 24) = w2 at *
      have hcells : ∀ W, Upd [] w2 W → W.cell? ⟨w.heap.size, 0, none⟩ = some (.int .i64 c) ∧ W.cell? ⟨w.heap.size, 1, none⟩ = some (.int .i64 i) := fun W hu =>
        ⟨(HA2.out.upd hu (by simp)).cell 0, (HA2.out.upd hu (by simp)).cell 1⟩
      refine wp_region_facts (.pure) (trivial) [.is (.pointer (some ⟨w.heap.size, 0, none⟩)), .is (.int .i64 c), .is (.int .u8 (c % 256)), .is (.pointer (some ⟨w.heap.size, 1, none⟩)), .is (.int .i64 i), .is (.int .u8 (i % 256)), .made (0) (by simp [Env.pure]) 2 5 #[.int .u8 (c % 256), .int .u8 (i % 256)], .is (.string (strOfNums [c % 256, i % 256])), .is (.string (d)), .is (.int .i64 (d).size), .is (.int .i64 (((d).size : Int) + 4)), .is (.string (be 2 (((d).size : Int) + 4))), .is (.string (strOfNums [c % 256, i % 256] ++ be 2 (((d).size : Int) + 4))), .is (.string (d)), .is (.string (strOfNums [c % 256, i % 256] ++ be 2 (((d).size : Int) + 4) ++ (d))), .is (.string (strOfNums [c % 256, i % 256] ++ be 2 (((d).size : Int) + 4) ++ (d))), .is (.int .i64 0)] (by kernel_rfl) (by kernel_rfl) (by kernel_rfl) (by kernel_rfl) ?_ ?_
      · refine Steps.cons ?_ (Steps.cons ?_ (Steps.cons ?_ (Steps.cons ?_ (Steps.cons ?_ (Steps.cons ?_ (Steps.cons ?_ (Steps.cons ?_ (Steps.cons ?_ (Steps.cons ?_ (Steps.cons ?_ (Steps.cons ?_ (Steps.cons ?_ (Steps.cons ?_ (Steps.cons ?_ (Steps.cons ?_ (Steps.cons ?_ Steps.nil))))))))))))))))
        · refine step_is _ rfl ⟨_, rfl⟩ rfl (fun _ _ => trivial) ?_
          intro a W hi hF hD
          have hu := hi.upd
          have e1 : a.tmps[1]?.getD undef = _ := (ev a 1).symm.trans (hF 1 (by kernel_rfl))
          clear hF hD
          have hc := hcells W hu
          go_simp
        · refine step_is _ rfl ⟨_, rfl⟩ rfl (fun _ _ => trivial) ?_
          intro a W hi hF hD
          have hu := hi.upd
          have e65 : a.tmps[65]?.getD undef = .pointer (some ⟨w.heap.size, 0, none⟩) := (ev a 65).symm.trans (hD _ (Array.mem_of_getElem? (i := 0) rfl) rfl).1
          clear hF hD
          have hc := hcells W hu
          go_simp
        · refine step_is _ rfl ⟨_, rfl⟩ rfl (fun _ _ => trivial) ?_
          intro a W hi hF hD
          have hu := hi.upd
          have e66 : a.tmps[66]?.getD undef = .int .i64 c := (ev a 66).symm.trans (hD _ (Array.mem_of_getElem? (i := 0) rfl) rfl).1
          clear hF hD
          have hc := hcells W hu
          go_simp
          rfl
        · refine step_is _ rfl ⟨_, rfl⟩ rfl (fun _ _ => trivial) ?_
          intro a W hi hF hD
          have hu := hi.upd
          have e1 : a.tmps[1]?.getD undef = _ := (ev a 1).symm.trans (hF 1 (by kernel_rfl))
          clear hF hD
          have hc := hcells W hu
          go_simp
        · refine step_is _ rfl ⟨_, rfl⟩ rfl (fun _ _ => trivial) ?_
          intro a W hi hF hD
          have hu := hi.upd
          have e68 : a.tmps[68]?.getD undef = .pointer (some ⟨w.heap.size, 1, none⟩) := (ev a 68).symm.trans (hD _ (Array.mem_of_getElem? (i := 0) rfl) rfl).1
          clear hF hD
          have hc := hcells W hu
          go_simp
        · refine step_is _ rfl ⟨_, rfl⟩ rfl (fun _ _ => trivial) ?_
          intro a W hi hF hD
          have hu := hi.upd
          have e69 : a.tmps[69]?.getD undef = .int .i64 i := (ev a 69).symm.trans (hD _ (Array.mem_of_getElem? (i := 0) rfl) rfl).1
          clear hF hD
          have hc := hcells W hu
          go_simp
          rfl
        · refine step_run rfl (fun _ _ => trivial) ?_
          intro a W hi hF hD
          have hu := hi.upd
          have e67 : a.tmps[67]?.getD undef = .int .u8 (c % 256) := (ev a 67).symm.trans (hD _ (Array.mem_of_getElem? (i := 0) rfl) rfl).1
          have e70 : a.tmps[70]?.getD undef = .int .u8 (i % 256) := (ev a 70).symm.trans (hD _ (Array.mem_of_getElem? (i := 1) rfl) rfl).1
          clear hF hD
          have hc := hcells W hu
          exact ⟨_, _, by (go_simp; first | done | rfl | exact ⟨rfl, rfl⟩), (Upd.refl _ _).alloc _, _, Nat.zero_le _, rfl, Blk.new _ _ _⟩
        · refine step_is _ rfl ⟨_, rfl⟩ rfl (fun _ _ => trivial) ?_
          intro a W hi hF hD
          have hu := hi.upd
          obtain ⟨g71, _, e71, b71⟩ : ∃ g, 0 ≤ g ∧ a.eval (.tmp 71) = .slice (some ⟨g, 0, none⟩) 2 2 ∧ Blk W g 5 #[.int .u8 (c % 256), .int .u8 (i % 256)] := (hD _ (Array.mem_of_getElem? (i := 0) rfl) rfl).1
          rw [ev] at e71
          clear hF hD
          have hc := hcells W hu
          have hcv := str2 (P := Tryz.prog) (dst := 9) Tryz.underlying71 Tryz.underlying5 Tryz.underlying9 b71
          go_simp
        · refine step_is _ rfl ⟨_, rfl⟩ rfl (fun _ _ => trivial) ?_
          intro a W hi hF hD
          have hu := hi.upd
          have e4 : a.tmps[4]?.getD undef = _ := (ev a 4).symm.trans (hF 4 (by kernel_rfl))
          clear hF hD
          have hc := hcells W hu
          go_simp
        · refine step_is _ rfl ⟨_, rfl⟩ rfl (fun _ _ => trivial) ?_
          intro a W hi hF hD
          have hu := hi.upd
          have e73 : a.tmps[73]?.getD undef = .string (d) := (ev a 73).symm.trans (hD _ (Array.mem_of_getElem? (i := 0) rfl) rfl).1
          clear hF hD
          have hc := hcells W hu
          go_simp
        · refine step_is _ rfl ⟨_, rfl⟩ rfl (fun _ _ => trivial) ?_
          intro a W hi hF hD
          have hu := hi.upd
          have e74 : a.tmps[74]?.getD undef = .int .i64 (d).size := (ev a 74).symm.trans (hD _ (Array.mem_of_getElem? (i := 0) rfl) rfl).1
          clear hF hD
          have hc := hcells W hu
          go_simp
          exact IntWalk.i64_in _ (by omega)
        · refine step_call rfl (fun _ _ => trivial) ?_
          intro a W hi hF hD
          have hu := hi.upd
          have e75 : a.tmps[75]?.getD undef = .int .i64 (((d).size : Int) + 4) := (ev a 75).symm.trans (hD _ (Array.mem_of_getElem? (i := 0) rfl) rfl).1
          clear hF hD
          have hc := hcells W hu
          refine ⟨_, _, by (go_simp; first | done | rfl | exact ⟨rfl, rfl⟩), ?_⟩
          refine (rtwo_any (((d).size : Int) + 4) (by omega) _).mono ?_
          rintro e w2 ⟨rfl, hu2⟩
          first | exact ⟨_, rfl, hu2, rfl⟩ | (cases hu2; exact ⟨_, rfl, Upd.refl _ _, rfl⟩)
        · refine step_is _ rfl ⟨_, rfl⟩ rfl (fun _ _ => trivial) ?_
          intro a W hi hF hD
          have hu := hi.upd
          have e72 : a.tmps[72]?.getD undef = .string (strOfNums [c % 256, i % 256]) := (ev a 72).symm.trans (hD _ (Array.mem_of_getElem? (i := 0) rfl) rfl).1
          have e76 : a.tmps[76]?.getD undef = .string (be 2 (((d).size : Int) + 4)) := (ev a 76).symm.trans (hD _ (Array.mem_of_getElem? (i := 1) rfl) rfl).1
          clear hF hD
          have hc := hcells W hu
          have := run_string_add_sum (P := Tryz.prog) W (strOfNums [c % 256, i % 256]) (be 2 (((d).size : Int) + 4)) (by rw [strOfNums_size, be_size]; simp)
          go_simp
        · refine step_is _ rfl ⟨_, rfl⟩ rfl (fun _ _ => trivial) ?_
          intro a W hi hF hD
          have hu := hi.upd
          have e4 : a.tmps[4]?.getD undef = _ := (ev a 4).symm.trans (hF 4 (by kernel_rfl))
          clear hF hD
          have hc := hcells W hu
          go_simp
        · refine step_is _ rfl ⟨_, rfl⟩ rfl (fun _ _ => trivial) ?_
          intro a W hi hF hD
          have hu := hi.upd
          have e77 : a.tmps[77]?.getD undef = .string (strOfNums [c % 256, i % 256] ++ be 2 (((d).size : Int) + 4)) := (ev a 77).symm.trans (hD _ (Array.mem_of_getElem? (i := 0) rfl) rfl).1
          have e78 : a.tmps[78]?.getD undef = .string (d) := (ev a 78).symm.trans (hD _ (Array.mem_of_getElem? (i := 1) rfl) rfl).1
          clear hF hD
          have hc := hcells W hu
          have := run_string_add_sum (P := Tryz.prog) W (strOfNums [c % 256, i % 256] ++ be 2 (((d).size : Int) + 4)) (d) (by rw [ByteArray.size_append, strOfNums_size, be_size]; simp; omega)
          go_simp
        · refine step_is _ rfl ⟨_, rfl⟩ rfl (fun _ _ => trivial) ?_
          intro a W hi hF hD
          have hu := hi.upd
          have e79 : a.tmps[79]?.getD undef = .string (strOfNums [c % 256, i % 256] ++ be 2 (((d).size : Int) + 4) ++ (d)) := (ev a 79).symm.trans (hD _ (Array.mem_of_getElem? (i := 0) rfl) rfl).1
          clear hF hD
          have hc := hcells W hu
          go_simp
        · refine step_is _ rfl ⟨_, rfl⟩ rfl (fun _ _ => trivial) ?_
          intro a W hi hF hD
          have hu := hi.upd
          clear hF hD
          have hc := hcells W hu
          go_simp
      intro vals W hu hv
      have v0 : vals 0 = .pointer (some ⟨w.heap.size, 0, none⟩) := (hv 0 (by decide)).1
      have v1 : vals 1 = .int .i64 c := (hv 1 (by decide)).1
      have v2 : vals 2 = .int .u8 (c % 256) := (hv 2 (by decide)).1
      have v3 : vals 3 = .pointer (some ⟨w.heap.size, 1, none⟩) := (hv 3 (by decide)).1
      have v4 : vals 4 = .int .i64 i := (hv 4 (by decide)).1
      have v5 : vals 5 = .int .u8 (i % 256) := (hv 5 (by decide)).1
      obtain ⟨g6, _, v6, b6⟩ : ∃ g, 0 ≤ g ∧ vals 6 = .slice (some ⟨g, 0, none⟩) 2 2 ∧ Blk W g 5 #[.int .u8 (c % 256), .int .u8 (i % 256)] := (hv 6 (by decide)).1
      have v7 : vals 7 = .string (strOfNums [c % 256, i % 256]) := (hv 7 (by decide)).1
      have v8 : vals 8 = .string (d) := (hv 8 (by decide)).1
      have v9 : vals 9 = .int .i64 (d).size := (hv 9 (by decide)).1
      have v10 : vals 10 = .int .i64 (((d).size : Int) + 4) := (hv 10 (by decide)).1
      have v11 : vals 11 = .string (be 2 (((d).size : Int) + 4)) := (hv 11 (by decide)).1
      have v12 : vals 12 = .string (strOfNums [c % 256, i % 256] ++ be 2 (((d).size : Int) + 4)) := (hv 12 (by decide)).1
      have v13 : vals 13 = .string (d) := (hv 13 (by decide)).1
      have v14 : vals 14 = .string (strOfNums [c % 256, i % 256] ++ be 2 (((d).size : Int) + 4) ++ (d)) := (hv 14 (by decide)).1
      have v15 : vals 15 = .string (strOfNums [c % 256, i % 256] ++ be 2 (((d).size : Int) + 4) ++ (d)) := (hv 15 (by decide)).1
      have v16 : vals 16 = .int .i64 0 := (hv 16 (by decide)).1
      clear hv
      simp only [putAll, Act.put, Nat.zero_add, Nat.reduceAdd, v0, v1, v2, v3, v4, v5, v6, v7, v8, v9, v10, v11, v12, v13, v14, v15, v16, List.setIfInBounds_toArray, List.set_cons_zero, List.set_cons_succ]
      clear v0 v1 v2 v3 v4 v5 v6 v7 v8 v9 v10 v11 v12 v13 v14 v15 v16
      have HU3 := Lib.hid (HU2.out.trans hu)
      clear hu hcells
      go_wp2_with fail
      go_ret2
      exact ⟨rfl, HU3.out⟩

    · have e0 := str_empty_f d0
      clear d0
      by_cases t1 : 1488 < (d).size
      · have HQ : Hid (layB c i (d) = (⟨#[]⟩, 2)) := if_pos t1
        rw [HQ.out]
        have t1' : (1488 : Int) < (d).size := by omega
        go_enter Tryz.func8, Tryz.ntmps8
        go_wp2_with (go_at_call 33; refine (rconf_any _ _).mono ?_; rintro e w1 ⟨rfl, rfl⟩; rw [HB.out])
        go_ret2
        exact ⟨rfl, (Upd.refl _ _).alloc _⟩
      have HQ : Hid (layB c i (d) = (strOfNums [c % 256, i % 256] ++ be 2 ((d).size + 4) ++ (d), 0)) := if_neg t1
      rw [HQ.out]
      have t1' : ¬ (1488 : Int) < (d).size := by omega
      clear HQ
      go_enter Tryz.func8, Tryz.ntmps8
      go_wp2_with (go_at_call 33; refine (rconf_any _ _).mono ?_; rintro e w1 ⟨rfl, rfl⟩; rw [HB.out])
      have HU2 : Hid (Upd [] w (w.alloc (Obj.cells #[Value.int IntKind.i64 c, Value.int IntKind.i64 i, Value.slice ao (0 : Nat) cap, Value.string d] 24))) := (Upd.refl [] w).alloc _
      have HA2 : Hid (Blk (w.alloc (Obj.cells #[Value.int IntKind.i64 c, Value.int IntKind.i64 i, Value.slice ao (0 : Nat) cap, Value.string d] 24)) w.heap.size 24 #[Value.int IntKind.i64 c, Value.int IntKind.i64 i, Value.slice ao (0 : Nat) cap, Value.string d]) := Blk.new _ _ _
      generalize w.alloc (Obj.cells #[Value.int IntKind.i64 c, Value.int IntKind.i64 i, Value.slice ao (0 : Nat) cap, Value.string d] 24) = w2 at *
      have hcells : ∀ W, Upd [] w2 W → W.cell? ⟨w.heap.size, 0, none⟩ = some (.int .i64 c) ∧ W.cell? ⟨w.heap.size, 1, none⟩ = some (.int .i64 i) := fun W hu =>
        ⟨(HA2.out.upd hu (by simp)).cell 0, (HA2.out.upd hu (by simp)).cell 1⟩
      refine wp_region_facts (.pure) (trivial) [.is (.pointer (some ⟨w.heap.size, 0, none⟩)), .is (.int .i64 c), .is (.int .u8 (c % 256)), .is (.pointer (some ⟨w.heap.size, 1, none⟩)), .is (.int .i64 i), .is (.int .u8 (i % 256)), .made (0) (by simp [Env.pure]) 2 5 #[.int .u8 (c % 256), .int .u8 (i % 256)], .is (.string (strOfNums [c % 256, i % 256])), .is (.string (d)), .is (.int .i64 (d).size), .is (.int .i64 (((d).size : Int) + 4)), .is (.string (be 2 (((d).size : Int) + 4))), .is (.string (strOfNums [c % 256, i % 256] ++ be 2 (((d).size : Int) + 4))), .is (.string (d)), .is (.string (strOfNums [c % 256, i % 256] ++ be 2 (((d).size : Int) + 4) ++ (d))), .is (.string (strOfNums [c % 256, i % 256] ++ be 2 (((d).size : Int) + 4) ++ (d))), .is (.int .i64 0)] (by kernel_rfl) (by kernel_rfl) (by kernel_rfl) (by kernel_rfl) ?_ ?_
      · refine Steps.cons ?_ (Steps.cons ?_ (Steps.cons ?_ (Steps.cons ?_ (Steps.cons ?_ (Steps.cons ?_ (Steps.cons ?_ (Steps.cons ?_ (Steps.cons ?_ (Steps.cons ?_ (Steps.cons ?_ (Steps.cons ?_ (Steps.cons ?_ (Steps.cons ?_ (Steps.cons ?_ (Steps.cons ?_ (Steps.cons ?_ Steps.nil))))))))))))))))
        · refine step_is _ rfl ⟨_, rfl⟩ rfl (fun _ _ => trivial) ?_
          intro a W hi hF hD
          have hu := hi.upd
          have e1 : a.tmps[1]?.getD undef = _ := (ev a 1).symm.trans (hF 1 (by kernel_rfl))
          clear hF hD
          have hc := hcells W hu
          go_simp
        · refine step_is _ rfl ⟨_, rfl⟩ rfl (fun _ _ => trivial) ?_
          intro a W hi hF hD
          have hu := hi.upd
          have e65 : a.tmps[65]?.getD undef = .pointer (some ⟨w.heap.size, 0, none⟩) := (ev a 65).symm.trans (hD _ (Array.mem_of_getElem? (i := 0) rfl) rfl).1
          clear hF hD
          have hc := hcells W hu
          go_simp
        · refine step_is _ rfl ⟨_, rfl⟩ rfl (fun _ _ => trivial) ?_
          intro a W hi hF hD
          have hu := hi.upd
          have e66 : a.tmps[66]?.getD undef = .int .i64 c := (ev a 66).symm.trans (hD _ (Array.mem_of_getElem? (i := 0) rfl) rfl).1
          clear hF hD
          have hc := hcells W hu
          go_simp
          rfl
        · refine step_is _ rfl ⟨_, rfl⟩ rfl (fun _ _ => trivial) ?_
          intro a W hi hF hD
          have hu := hi.upd
          have e1 : a.tmps[1]?.getD undef = _ := (ev a 1).symm.trans (hF 1 (by kernel_rfl))
          clear hF hD
          have hc := hcells W hu
          go_simp
        · refine step_is _ rfl ⟨_, rfl⟩ rfl (fun _ _ => trivial) ?_
          intro a W hi hF hD
          have hu := hi.upd
          have e68 : a.tmps[68]?.getD undef = .pointer (some ⟨w.heap.size, 1, none⟩) := (ev a 68).symm.trans (hD _ (Array.mem_of_getElem? (i := 0) rfl) rfl).1
          clear hF hD
          have hc := hcells W hu
          go_simp
        · refine step_is _ rfl ⟨_, rfl⟩ rfl (fun _ _ => trivial) ?_
          intro a W hi hF hD
          have hu := hi.upd
          have e69 : a.tmps[69]?.getD undef = .int .i64 i := (ev a 69).symm.trans (hD _ (Array.mem_of_getElem? (i := 0) rfl) rfl).1
          clear hF hD
          have hc := hcells W hu
          go_simp
          rfl
        · refine step_run rfl (fun _ _ => trivial) ?_
          intro a W hi hF hD
          have hu := hi.upd
          have e67 : a.tmps[67]?.getD undef = .int .u8 (c % 256) := (ev a 67).symm.trans (hD _ (Array.mem_of_getElem? (i := 0) rfl) rfl).1
          have e70 : a.tmps[70]?.getD undef = .int .u8 (i % 256) := (ev a 70).symm.trans (hD _ (Array.mem_of_getElem? (i := 1) rfl) rfl).1
          clear hF hD
          have hc := hcells W hu
          exact ⟨_, _, by (go_simp; first | done | rfl | exact ⟨rfl, rfl⟩), (Upd.refl _ _).alloc _, _, Nat.zero_le _, rfl, Blk.new _ _ _⟩
        · refine step_is _ rfl ⟨_, rfl⟩ rfl (fun _ _ => trivial) ?_
          intro a W hi hF hD
          have hu := hi.upd
          obtain ⟨g71, _, e71, b71⟩ : ∃ g, 0 ≤ g ∧ a.eval (.tmp 71) = .slice (some ⟨g, 0, none⟩) 2 2 ∧ Blk W g 5 #[.int .u8 (c % 256), .int .u8 (i % 256)] := (hD _ (Array.mem_of_getElem? (i := 0) rfl) rfl).1
          rw [ev] at e71
          clear hF hD
          have hc := hcells W hu
          have hcv := str2 (P := Tryz.prog) (dst := 9) Tryz.underlying71 Tryz.underlying5 Tryz.underlying9 b71
          go_simp
        · refine step_is _ rfl ⟨_, rfl⟩ rfl (fun _ _ => trivial) ?_
          intro a W hi hF hD
          have hu := hi.upd
          have e4 : a.tmps[4]?.getD undef = _ := (ev a 4).symm.trans (hF 4 (by kernel_rfl))
          clear hF hD
          have hc := hcells W hu
          go_simp
        · refine step_is _ rfl ⟨_, rfl⟩ rfl (fun _ _ => trivial) ?_
          intro a W hi hF hD
          have hu := hi.upd
          have e73 : a.tmps[73]?.getD undef = .string (d) := (ev a 73).symm.trans (hD _ (Array.mem_of_getElem? (i := 0) rfl) rfl).1
          clear hF hD
          have hc := hcells W hu
          go_simp
        · refine step_is _ rfl ⟨_, rfl⟩ rfl (fun _ _ => trivial) ?_
          intro a W hi hF hD
          have hu := hi.upd
          have e74 : a.tmps[74]?.getD undef = .int .i64 (d).size := (ev a 74).symm.trans (hD _ (Array.mem_of_getElem? (i := 0) rfl) rfl).1
          clear hF hD
          have hc := hcells W hu
          go_simp
          exact IntWalk.i64_in _ (by omega)
        · refine step_call rfl (fun _ _ => trivial) ?_
          intro a W hi hF hD
          have hu := hi.upd
          have e75 : a.tmps[75]?.getD undef = .int .i64 (((d).size : Int) + 4) := (ev a 75).symm.trans (hD _ (Array.mem_of_getElem? (i := 0) rfl) rfl).1
          clear hF hD
          have hc := hcells W hu
          refine ⟨_, _, by (go_simp; first | done | rfl | exact ⟨rfl, rfl⟩), ?_⟩
          refine (rtwo_any (((d).size : Int) + 4) (by omega) _).mono ?_
          rintro e w2 ⟨rfl, hu2⟩
          first | exact ⟨_, rfl, hu2, rfl⟩ | (cases hu2; exact ⟨_, rfl, Upd.refl _ _, rfl⟩)
        · refine step_is _ rfl ⟨_, rfl⟩ rfl (fun _ _ => trivial) ?_
          intro a W hi hF hD
          have hu := hi.upd
          have e72 : a.tmps[72]?.getD undef = .string (strOfNums [c % 256, i % 256]) := (ev a 72).symm.trans (hD _ (Array.mem_of_getElem? (i := 0) rfl) rfl).1
          have e76 : a.tmps[76]?.getD undef = .string (be 2 (((d).size : Int) + 4)) := (ev a 76).symm.trans (hD _ (Array.mem_of_getElem? (i := 1) rfl) rfl).1
          clear hF hD
          have hc := hcells W hu
          have := run_string_add_sum (P := Tryz.prog) W (strOfNums [c % 256, i % 256]) (be 2 (((d).size : Int) + 4)) (by rw [strOfNums_size, be_size]; simp)
          go_simp
        · refine step_is _ rfl ⟨_, rfl⟩ rfl (fun _ _ => trivial) ?_
          intro a W hi hF hD
          have hu := hi.upd
          have e4 : a.tmps[4]?.getD undef = _ := (ev a 4).symm.trans (hF 4 (by kernel_rfl))
          clear hF hD
          have hc := hcells W hu
          go_simp
        · refine step_is _ rfl ⟨_, rfl⟩ rfl (fun _ _ => trivial) ?_
          intro a W hi hF hD
          have hu := hi.upd
          have e77 : a.tmps[77]?.getD undef = .string (strOfNums [c % 256, i % 256] ++ be 2 (((d).size : Int) + 4)) := (ev a 77).symm.trans (hD _ (Array.mem_of_getElem? (i := 0) rfl) rfl).1
          have e78 : a.tmps[78]?.getD undef = .string (d) := (ev a 78).symm.trans (hD _ (Array.mem_of_getElem? (i := 1) rfl) rfl).1
          clear hF hD
          have hc := hcells W hu
          have := run_string_add_sum (P := Tryz.prog) W (strOfNums [c % 256, i % 256] ++ be 2 (((d).size : Int) + 4)) (d) (by rw [ByteArray.size_append, strOfNums_size, be_size]; simp; omega)
          go_simp
        · refine step_is _ rfl ⟨_, rfl⟩ rfl (fun _ _ => trivial) ?_
          intro a W hi hF hD
          have hu := hi.upd
          have e79 : a.tmps[79]?.getD undef = .string (strOfNums [c % 256, i % 256] ++ be 2 (((d).size : Int) + 4) ++ (d)) := (ev a 79).symm.trans (hD _ (Array.mem_of_getElem? (i := 0) rfl) rfl).1
          clear hF hD
          have hc := hcells W hu
          go_simp
        · refine step_is _ rfl ⟨_, rfl⟩ rfl (fun _ _ => trivial) ?_
          intro a W hi hF hD
          have hu := hi.upd
          clear hF hD
          have hc := hcells W hu
          go_simp
      intro vals W hu hv
      have v0 : vals 0 = .pointer (some ⟨w.heap.size, 0, none⟩) := (hv 0 (by decide)).1
      have v1 : vals 1 = .int .i64 c := (hv 1 (by decide)).1
      have v2 : vals 2 = .int .u8 (c % 256) := (hv 2 (by decide)).1
      have v3 : vals 3 = .pointer (some ⟨w.heap.size, 1, none⟩) := (hv 3 (by decide)).1
      have v4 : vals 4 = .int .i64 i := (hv 4 (by decide)).1
      have v5 : vals 5 = .int .u8 (i % 256) := (hv 5 (by decide)).1
      obtain ⟨g6, _, v6, b6⟩ : ∃ g, 0 ≤ g ∧ vals 6 = .slice (some ⟨g, 0, none⟩) 2 2 ∧ Blk W g 5 #[.int .u8 (c % 256), .int .u8 (i % 256)] := (hv 6 (by decide)).1
      have v7 : vals 7 = .string (strOfNums [c % 256, i % 256]) := (hv 7 (by decide)).1
      have v8 : vals 8 = .string (d) := (hv 8 (by decide)).1
      have v9 : vals 9 = .int .i64 (d).size := (hv 9 (by decide)).1
      have v10 : vals 10 = .int .i64 (((d).size : Int) + 4) := (hv 10 (by decide)).1
      have v11 : vals 11 = .string (be 2 (((d).size : Int) + 4)) := (hv 11 (by decide)).1
      have v12 : vals 12 = .string (strOfNums [c % 256, i % 256] ++ be 2 (((d).size : Int) + 4)) := (hv 12 (by decide)).1
      have v13 : vals 13 = .string (d) := (hv 13 (by decide)).1
      have v14 : vals 14 = .string (strOfNums [c % 256, i % 256] ++ be 2 (((d).size : Int) + 4) ++ (d)) := (hv 14 (by decide)).1
      have v15 : vals 15 = .string (strOfNums [c % 256, i % 256] ++ be 2 (((d).size : Int) + 4) ++ (d)) := (hv 15 (by decide)).1
      have v16 : vals 16 = .int .i64 0 := (hv 16 (by decide)).1
      clear hv
      simp only [putAll, Act.put, Nat.zero_add, Nat.reduceAdd, v0, v1, v2, v3, v4, v5, v6, v7, v8, v9, v10, v11, v12, v13, v14, v15, v16, List.setIfInBounds_toArray, List.set_cons_zero, List.set_cons_succ]
      clear v0 v1 v2 v3 v4 v5 v6 v7 v8 v9 v10 v11 v12 v13 v14 v15 v16
      have HU3 := Lib.hid (HU2.out.trans hu)
      clear hu hcells
      go_wp2_with fail
      go_ret2
      exact ⟨rfl, HU3.out⟩

  | true =>
    have d0 : d.size = 0 := by
      rcases Nat.eq_zero_or_pos d.size with h | h
      · exact h
      · exact absurd ⟨by omega, rfl⟩ b2
    have hde : d = ⟨#[]⟩ := ByteArray.ext (Array.eq_empty_of_size_eq_zero d0)
    subst hde
    have hcat : P0 ++ (⟨#[]⟩ : ByteArray) = P0 := ByteArray.append_empty
    rw [hcat]
    clear hcat b1 b2 HNBAD d0
    have U0 : Hid (Upd [] w (w.alloc (Obj.cells #[Value.int IntKind.i64 c, Value.int IntKind.i64 i, Value.slice ao n cap, Value.string ⟨#[]⟩] 24))) := (Upd.refl [] w).alloc _
    have HA0 : Hid (Blk (w.alloc (Obj.cells #[Value.int IntKind.i64 c, Value.int IntKind.i64 i, Value.slice ao n cap, Value.string ⟨#[]⟩] 24)) w.heap.size 24 #[Value.int IntKind.i64 c, Value.int IntKind.i64 i, Value.slice ao n cap, Value.string ⟨#[]⟩]) := Blk.new _ _ _
    have HLW := Lib.hid (HL.out.upd U0.out)
    by_cases n0 : 0 < n
    · have n0' : (0 : Int) < n := by omega
      by_cases p1 : P1 = 0
      · subst p1
        rw [if_neg (by simp)]
        by_cases t1 : 1488 < (P0).size
        · have HQ : Hid (layB c i (P0) = (⟨#[]⟩, 2)) := if_pos t1
          rw [HQ.out]
          have t1' : (1488 : Int) < (P0).size := by omega
          go_enter Tryz.func8, Tryz.ntmps8
          go_wp2_with (first | (go_at_call 33; refine (rconf_any _ _).mono ?_; rintro e w1 ⟨rfl, rfl⟩; rw [HB.out]) | (go_at_call 10; refine (rputOptions_any l _ _ HLW.out HLS.out).mono ?_; rintro e w2 ⟨rfl, hu2⟩; rw [HP.out]; have HU2 := Lib.hid (U0.out.trans hu2); have HA2 := Lib.hid (HA0.out.upd hu2 (by simp)); have c0 := HA2.out.cell 0; have c1 := HA2.out.cell 1; have c3 := HA2.out.cell 3; simp only [List.size_toArray, List.length_cons, List.length_nil, List.getElem?_toArray, List.getElem?_cons_zero, List.getElem?_cons_succ] at c0 c1 c3; clear hu2))
          go_ret2
          exact ⟨rfl, HU2.out⟩
        have HQ : Hid (layB c i (P0) = (strOfNums [c % 256, i % 256] ++ be 2 ((P0).size + 4) ++ (P0), 0)) := if_neg t1
        rw [HQ.out]
        have t1' : ¬ (1488 : Int) < (P0).size := by omega
        clear HQ
        go_enter Tryz.func8, Tryz.ntmps8
        go_wp2_with (first | (go_at_call 33; refine (rconf_any _ _).mono ?_; rintro e w1 ⟨rfl, rfl⟩; rw [HB.out]) | (go_at_call 10; refine (rputOptions_any l _ _ HLW.out HLS.out).mono ?_; rintro e w2 ⟨rfl, hu2⟩; rw [HP.out]; have HU2 := Lib.hid (U0.out.trans hu2); have HA2 := Lib.hid (HA0.out.upd hu2 (by simp)); have c0 := HA2.out.cell 0; have c1 := HA2.out.cell 1; have c3 := HA2.out.cell 3; simp only [List.size_toArray, List.length_cons, List.length_nil, List.getElem?_toArray, List.getElem?_cons_zero, List.getElem?_cons_succ] at c0 c1 c3; clear hu2))
        skip
        have hcells : ∀ W, Upd [] w2 W → W.cell? ⟨w.heap.size, 0, none⟩ = some (.int .i64 c) ∧ W.cell? ⟨w.heap.size, 1, none⟩ = some (.int .i64 i) := fun W hu =>
          ⟨(HA2.out.upd hu (by simp)).cell 0, (HA2.out.upd hu (by simp)).cell 1⟩
        refine wp_region_facts (.pure) (trivial) [.is (.pointer (some ⟨w.heap.size, 0, none⟩)), .is (.int .i64 c), .is (.int .u8 (c % 256)), .is (.pointer (some ⟨w.heap.size, 1, none⟩)), .is (.int .i64 i), .is (.int .u8 (i % 256)), .made (0) (by simp [Env.pure]) 2 5 #[.int .u8 (c % 256), .int .u8 (i % 256)], .is (.string (strOfNums [c % 256, i % 256])), .is (.string (P0)), .is (.int .i64 (P0).size), .is (.int .i64 (((P0).size : Int) + 4)), .is (.string (be 2 (((P0).size : Int) + 4))), .is (.string (strOfNums [c % 256, i % 256] ++ be 2 (((P0).size : Int) + 4))), .is (.string (P0)), .is (.string (strOfNums [c % 256, i % 256] ++ be 2 (((P0).size : Int) + 4) ++ (P0))), .is (.string (strOfNums [c % 256, i % 256] ++ be 2 (((P0).size : Int) + 4) ++ (P0))), .is (.int .i64 0)] (by kernel_rfl) (by kernel_rfl) (by kernel_rfl) (by kernel_rfl) ?_ ?_
        · refine Steps.cons ?_ (Steps.cons ?_ (Steps.cons ?_ (Steps.cons ?_ (Steps.cons ?_ (Steps.cons ?_ (Steps.cons ?_ (Steps.cons ?_ (Steps.cons ?_ (Steps.cons ?_ (Steps.cons ?_ (Steps.cons ?_ (Steps.cons ?_ (Steps.cons ?_ (Steps.cons ?_ (Steps.cons ?_ (Steps.cons ?_ Steps.nil))))))))))))))))
          · refine step_is _ rfl ⟨_, rfl⟩ rfl (fun _ _ => trivial) ?_
            intro a W hi hF hD
            have hu := hi.upd
            have e1 : a.tmps[1]?.getD undef = _ := (ev a 1).symm.trans (hF 1 (by kernel_rfl))
            clear hF hD
            have hc := hcells W hu
            go_simp
          · refine step_is _ rfl ⟨_, rfl⟩ rfl (fun _ _ => trivial) ?_
            intro a W hi hF hD
            have hu := hi.upd
            have e65 : a.tmps[65]?.getD undef = .pointer (some ⟨w.heap.size, 0, none⟩) := (ev a 65).symm.trans (hD _ (Array.mem_of_getElem? (i := 0) rfl) rfl).1
            clear hF hD
            have hc := hcells W hu
            go_simp
          · refine step_is _ rfl ⟨_, rfl⟩ rfl (fun _ _ => trivial) ?_
            intro a W hi hF hD
            have hu := hi.upd
            have e66 : a.tmps[66]?.getD undef = .int .i64 c := (ev a 66).symm.trans (hD _ (Array.mem_of_getElem? (i := 0) rfl) rfl).1
            clear hF hD
            have hc := hcells W hu
            go_simp
            rfl
          · refine step_is _ rfl ⟨_, rfl⟩ rfl (fun _ _ => trivial) ?_
            intro a W hi hF hD
            have hu := hi.upd
            have e1 : a.tmps[1]?.getD undef = _ := (ev a 1).symm.trans (hF 1 (by kernel_rfl))
            clear hF hD
            have hc := hcells W hu
            go_simp
          · refine step_is _ rfl ⟨_, rfl⟩ rfl (fun _ _ => trivial) ?_
            intro a W hi hF hD
            have hu := hi.upd
            have e68 : a.tmps[68]?.getD undef = .pointer (some ⟨w.heap.size, 1, none⟩) := (ev a 68).symm.trans (hD _ (Array.mem_of_getElem? (i := 0) rfl) rfl).1
            clear hF hD
            have hc := hcells W hu
            go_simp
          · refine step_is _ rfl ⟨_, rfl⟩ rfl (fun _ _ => trivial) ?_
            intro a W hi hF hD
            have hu := hi.upd
            have e69 : a.tmps[69]?.getD undef = .int .i64 i := (ev a 69).symm.trans (hD _ (Array.mem_of_getElem? (i := 0) rfl) rfl).1
            clear hF hD
            have hc := hcells W hu
            go_simp
            rfl
          · refine step_run rfl (fun _ _ => trivial) ?_
            intro a W hi hF hD
            have hu := hi.upd
            have e67 : a.tmps[67]?.getD undef = .int .u8 (c % 256) := (ev a 67).symm.trans (hD _ (Array.mem_of_getElem? (i := 0) rfl) rfl).1
            have e70 : a.tmps[70]?.getD undef = .int .u8 (i % 256) := (ev a 70).symm.trans (hD _ (Array.mem_of_getElem? (i := 1) rfl) rfl).1
            clear hF hD
            have hc := hcells W hu
            exact ⟨_, _, by (go_simp; first | done | rfl | exact ⟨rfl, rfl⟩), (Upd.refl _ _).alloc _, _, Nat.zero_le _, rfl, Blk.new _ _ _⟩
          · refine step_is _ rfl ⟨_, rfl⟩ rfl (fun _ _ => trivial) ?_
            intro a W hi hF hD
            have hu := hi.upd
            obtain ⟨g71, _, e71, b71⟩ : ∃ g, 0 ≤ g ∧ a.eval (.tmp 71) = .slice (some ⟨g, 0, none⟩) 2 2 ∧ Blk W g 5 #[.int .u8 (c % 256), .int .u8 (i % 256)] := (hD _ (Array.mem_of_getElem? (i := 0) rfl) rfl).1
            rw [ev] at e71
            clear hF hD
            have hc := hcells W hu
            have hcv := str2 (P := Tryz.prog) (dst := 9) Tryz.underlying71 Tryz.underlying5 Tryz.underlying9 b71
            go_simp
          · refine step_is _ rfl ⟨_, rfl⟩ rfl (fun _ _ => trivial) ?_
            intro a W hi hF hD
            have hu := hi.upd
            have e4 : a.tmps[4]?.getD undef = _ := (ev a 4).symm.trans (hF 4 (by kernel_rfl))
            clear hF hD
            have hc := hcells W hu
            go_simp
          · refine step_is _ rfl ⟨_, rfl⟩ rfl (fun _ _ => trivial) ?_
            intro a W hi hF hD
            have hu := hi.upd
            have e73 : a.tmps[73]?.getD undef = .string (P0) := (ev a 73).symm.trans (hD _ (Array.mem_of_getElem? (i := 0) rfl) rfl).1
            clear hF hD
            have hc := hcells W hu
            go_simp
          · refine step_is _ rfl ⟨_, rfl⟩ rfl (fun _ _ => trivial) ?_
            intro a W hi hF hD
            have hu := hi.upd
            have e74 : a.tmps[74]?.getD undef = .int .i64 (P0).size := (ev a 74).symm.trans (hD _ (Array.mem_of_getElem? (i := 0) rfl) rfl).1
            clear hF hD
            have hc := hcells W hu
            go_simp
            exact IntWalk.i64_in _ (by omega)
          · refine step_call rfl (fun _ _ => trivial) ?_
            intro a W hi hF hD
            have hu := hi.upd
            have e75 : a.tmps[75]?.getD undef = .int .i64 (((P0).size : Int) + 4) := (ev a 75).symm.trans (hD _ (Array.mem_of_getElem? (i := 0) rfl) rfl).1
            clear hF hD
            have hc := hcells W hu
            refine ⟨_, _, by (go_simp; first | done | rfl | exact ⟨rfl, rfl⟩), ?_⟩
            refine (rtwo_any (((P0).size : Int) + 4) (by omega) _).mono ?_
            rintro e w2 ⟨rfl, hu2⟩
            first | exact ⟨_, rfl, hu2, rfl⟩ | (cases hu2; exact ⟨_, rfl, Upd.refl _ _, rfl⟩)
          · refine step_is _ rfl ⟨_, rfl⟩ rfl (fun _ _ => trivial) ?_
            intro a W hi hF hD
            have hu := hi.upd
            have e72 : a.tmps[72]?.getD undef = .string (strOfNums [c % 256, i % 256]) := (ev a 72).symm.trans (hD _ (Array.mem_of_getElem? (i := 0) rfl) rfl).1
            have e76 : a.tmps[76]?.getD undef = .string (be 2 (((P0).size : Int) + 4)) := (ev a 76).symm.trans (hD _ (Array.mem_of_getElem? (i := 1) rfl) rfl).1
            clear hF hD
            have hc := hcells W hu
            have := run_string_add_sum (P := Tryz.prog) W (strOfNums [c % 256, i % 256]) (be 2 (((P0).size : Int) + 4)) (by rw [strOfNums_size, be_size]; simp)
            go_simp
          · refine step_is _ rfl ⟨_, rfl⟩ rfl (fun _ _ => trivial) ?_
            intro a W hi hF hD
            have hu := hi.upd
            have e4 : a.tmps[4]?.getD undef = _ := (ev a 4).symm.trans (hF 4 (by kernel_rfl))
            clear hF hD
            have hc := hcells W hu
            go_simp
          · refine step_is _ rfl ⟨_, rfl⟩ rfl (fun _ _ => trivial) ?_
            intro a W hi hF hD
            have hu := hi.upd
            have e77 : a.tmps[77]?.getD undef = .string (strOfNums [c % 256, i % 256] ++ be 2 (((P0).size : Int) + 4)) := (ev a 77).symm.trans (hD _ (Array.mem_of_getElem? (i := 0) rfl) rfl).1
            have e78 : a.tmps[78]?.getD undef = .string (P0) := (ev a 78).symm.trans (hD _ (Array.mem_of_getElem? (i := 1) rfl) rfl).1
            clear hF hD
            have hc := hcells W hu
            have := run_string_add_sum (P := Tryz.prog) W (strOfNums [c % 256, i % 256] ++ be 2 (((P0).size : Int) + 4)) (P0) (by rw [ByteArray.size_append, strOfNums_size, be_size]; simp; omega)
            go_simp
          · refine step_is _ rfl ⟨_, rfl⟩ rfl (fun _ _ => trivial) ?_
            intro a W hi hF hD
            have hu := hi.upd
            have e79 : a.tmps[79]?.getD undef = .string (strOfNums [c % 256, i % 256] ++ be 2 (((P0).size : Int) + 4) ++ (P0)) := (ev a 79).symm.trans (hD _ (Array.mem_of_getElem? (i := 0) rfl) rfl).1
            clear hF hD
            have hc := hcells W hu
            go_simp
          · refine step_is _ rfl ⟨_, rfl⟩ rfl (fun _ _ => trivial) ?_
            intro a W hi hF hD
            have hu := hi.upd
            clear hF hD
            have hc := hcells W hu
            go_simp
        intro vals W hu hv
        have v0 : vals 0 = .pointer (some ⟨w.heap.size, 0, none⟩) := (hv 0 (by decide)).1
        have v1 : vals 1 = .int .i64 c := (hv 1 (by decide)).1
        have v2 : vals 2 = .int .u8 (c % 256) := (hv 2 (by decide)).1
        have v3 : vals 3 = .pointer (some ⟨w.heap.size, 1, none⟩) := (hv 3 (by decide)).1
        have v4 : vals 4 = .int .i64 i := (hv 4 (by decide)).1
        have v5 : vals 5 = .int .u8 (i % 256) := (hv 5 (by decide)).1
        obtain ⟨g6, _, v6, b6⟩ : ∃ g, 0 ≤ g ∧ vals 6 = .slice (some ⟨g, 0, none⟩) 2 2 ∧ Blk W g 5 #[.int .u8 (c % 256), .int .u8 (i % 256)] := (hv 6 (by decide)).1
        have v7 : vals 7 = .string (strOfNums [c % 256, i % 256]) := (hv 7 (by decide)).1
        have v8 : vals 8 = .string (P0) := (hv 8 (by decide)).1
        have v9 : vals 9 = .int .i64 (P0).size := (hv 9 (by decide)).1
        have v10 : vals 10 = .int .i64 (((P0).size : Int) + 4) := (hv 10 (by decide)).1
        have v11 : vals 11 = .string (be 2 (((P0).size : Int) + 4)) := (hv 11 (by decide)).1
        have v12 : vals 12 = .string (strOfNums [c % 256, i % 256] ++ be 2 (((P0).size : Int) + 4)) := (hv 12 (by decide)).1
        have v13 : vals 13 = .string (P0) := (hv 13 (by decide)).1
        have v14 : vals 14 = .string (strOfNums [c % 256, i % 256] ++ be 2 (((P0).size : Int) + 4) ++ (P0)) := (hv 14 (by decide)).1
        have v15 : vals 15 = .string (strOfNums [c % 256, i % 256] ++ be 2 (((P0).size : Int) + 4) ++ (P0)) := (hv 15 (by decide)).1
        have v16 : vals 16 = .int .i64 0 := (hv 16 (by decide)).1
        clear hv
        simp only [putAll, Act.put, Nat.zero_add, Nat.reduceAdd, v0, v1, v2, v3, v4, v5, v6, v7, v8, v9, v10, v11, v12, v13, v14, v15, v16, List.setIfInBounds_toArray, List.set_cons_zero, List.set_cons_succ]
        clear v0 v1 v2 v3 v4 v5 v6 v7 v8 v9 v10 v11 v12 v13 v14 v15 v16
        have HU3 := Lib.hid (HU2.out.trans hu)
        clear hu hcells
        go_wp2_with fail
        go_ret2
        exact ⟨rfl, HU3.out⟩

      · rw [if_pos p1]
        have p1' : (P1 != 0) = true := by simpa using p1
        clear p1
        go_enter Tryz.func8, Tryz.ntmps8

        go_wp2_with (first | (go_at_call 33; refine (rconf_any _ _).mono ?_; rintro e w1 ⟨rfl, rfl⟩; rw [HB.out]) | (go_at_call 10; refine (rputOptions_any l _ _ HLW.out HLS.out).mono ?_; rintro e w2 ⟨rfl, hu2⟩; rw [HP.out]; have HU2 := Lib.hid (U0.out.trans hu2); have HA2 := Lib.hid (HA0.out.upd hu2 (by simp)); have c0 := HA2.out.cell 0; have c1 := HA2.out.cell 1; have c3 := HA2.out.cell 3; simp only [List.size_toArray, List.length_cons, List.length_nil, List.getElem?_toArray, List.getElem?_cons_zero, List.getElem?_cons_succ] at c0 c1 c3; clear hu2))
        go_ret2
        exact ⟨rfl, HU2.out⟩
    · obtain rfl : n = 0 := by omega
      clear n0
      by_cases p1 : P1 = 0
      · subst p1
        rw [if_neg (by simp)]
        by_cases t1 : 1488 < (P0).size
        · have HQ : Hid (layB c i (P0) = (⟨#[]⟩, 2)) := if_pos t1
          rw [HQ.out]
          have t1' : (1488 : Int) < (P0).size := by omega
          go_enter Tryz.func8, Tryz.ntmps8
          go_wp2_with (first | (go_at_call 33; refine (rconf_any _ _).mono ?_; rintro e w1 ⟨rfl, rfl⟩; rw [HB.out]) | (go_at_call 10; refine (rputOptions_any l _ _ HLW.out HLS.out).mono ?_; rintro e w2 ⟨rfl, hu2⟩; rw [HP.out]; have HU2 := Lib.hid (U0.out.trans hu2); have HA2 := Lib.hid (HA0.out.upd hu2 (by simp)); have c0 := HA2.out.cell 0; have c1 := HA2.out.cell 1; have c3 := HA2.out.cell 3; simp only [List.size_toArray, List.length_cons, List.length_nil, List.getElem?_toArray, List.getElem?_cons_zero, List.getElem?_cons_succ] at c0 c1 c3; clear hu2))
          go_ret2
          exact ⟨rfl, HU2.out⟩
        have HQ : Hid (layB c i (P0) = (strOfNums [c % 256, i % 256] ++ be 2 ((P0).size + 4) ++ (P0), 0)) := if_neg t1
        rw [HQ.out]
        have t1' : ¬ (1488 : Int) < (P0).size := by omega
        clear HQ
        go_enter Tryz.func8, Tryz.ntmps8
        go_wp2_with (first | (go_at_call 33; refine (rconf_any _ _).mono ?_; rintro e w1 ⟨rfl, rfl⟩; rw [HB.out]) | (go_at_call 10; refine (rputOptions_any l _ _ HLW.out HLS.out).mono ?_; rintro e w2 ⟨rfl, hu2⟩; rw [HP.out]; have HU2 := Lib.hid (U0.out.trans hu2); have HA2 := Lib.hid (HA0.out.upd hu2 (by simp)); have c0 := HA2.out.cell 0; have c1 := HA2.out.cell 1; have c3 := HA2.out.cell 3; simp only [List.size_toArray, List.length_cons, List.length_nil, List.getElem?_toArray, List.getElem?_cons_zero, List.getElem?_cons_succ] at c0 c1 c3; clear hu2))
        skip
        have hcells : ∀ W, Upd [] w2 W → W.cell? ⟨w.heap.size, 0, none⟩ = some (.int .i64 c) ∧ W.cell? ⟨w.heap.size, 1, none⟩ = some (.int .i64 i) := fun W hu =>
          ⟨(HA2.out.upd hu (by simp)).cell 0, (HA2.out.upd hu (by simp)).cell 1⟩
        refine wp_region_facts (.pure) (trivial) [.is (.pointer (some ⟨w.heap.size, 0, none⟩)), .is (.int .i64 c), .is (.int .u8 (c % 256)), .is (.pointer (some ⟨w.heap.size, 1, none⟩)), .is (.int .i64 i), .is (.int .u8 (i % 256)), .made (0) (by simp [Env.pure]) 2 5 #[.int .u8 (c % 256), .int .u8 (i % 256)], .is (.string (strOfNums [c % 256, i % 256])), .is (.string (P0)), .is (.int .i64 (P0).size), .is (.int .i64 (((P0).size : Int) + 4)), .is (.string (be 2 (((P0).size : Int) + 4))), .is (.string (strOfNums [c % 256, i % 256] ++ be 2 (((P0).size : Int) + 4))), .is (.string (P0)), .is (.string (strOfNums [c % 256, i % 256] ++ be 2 (((P0).size : Int) + 4) ++ (P0))), .is (.string (strOfNums [c % 256, i % 256] ++ be 2 (((P0).size : Int) + 4) ++ (P0))), .is (.int .i64 0)] (by kernel_rfl) (by kernel_rfl) (by kernel_rfl) (by kernel_rfl) ?_ ?_
        · refine Steps.cons ?_ (Steps.cons ?_ (Steps.cons ?_ (Steps.cons ?_ (Steps.cons ?_ (Steps.cons ?_ (Steps.cons ?_ (Steps.cons ?_ (Steps.cons ?_ (Steps.cons ?_ (Steps.cons ?_ (Steps.cons ?_ (Steps.cons ?_ (Steps.cons ?_ (Steps.cons ?_ (Steps.cons ?_ (Steps.cons ?_ Steps.nil))))))))))))))))
          · refine step_is _ rfl ⟨_, rfl⟩ rfl (fun _ _ => trivial) ?_
            intro a W hi hF hD
            have hu := hi.upd
            have e1 : a.tmps[1]?.getD undef = _ := (ev a 1).symm.trans (hF 1 (by kernel_rfl))
            clear hF hD
            have hc := hcells W hu
            go_simp
          · refine step_is _ rfl ⟨_, rfl⟩ rfl (fun _ _ => trivial) ?_
            intro a W hi hF hD
            have hu := hi.upd
            have e65 : a.tmps[65]?.getD undef = .pointer (some ⟨w.heap.size, 0, none⟩) := (ev a 65).symm.trans (hD _ (Array.mem_of_getElem? (i := 0) rfl) rfl).1
            clear hF hD
            have hc := hcells W hu
            go_simp
          · refine step_is _ rfl ⟨_, rfl⟩ rfl (fun _ _ => trivial) ?_
            intro a W hi hF hD
            have hu := hi.upd
            have e66 : a.tmps[66]?.getD undef = .int .i64 c := (ev a 66).symm.trans (hD _ (Array.mem_of_getElem? (i := 0) rfl) rfl).1
            clear hF hD
            have hc := hcells W hu
            go_simp
            rfl
          · refine step_is _ rfl ⟨_, rfl⟩ rfl (fun _ _ => trivial) ?_
            intro a W hi hF hD
            have hu := hi.upd
            have e1 : a.tmps[1]?.getD undef = _ := (ev a 1).symm.trans (hF 1 (by kernel_rfl))
            clear hF hD
            have hc := hcells W hu
            go_simp
          · refine step_is _ rfl ⟨_, rfl⟩ rfl (fun _ _ => trivial) ?_
            intro a W hi hF hD
            have hu := hi.upd
            have e68 : a.tmps[68]?.getD undef = .pointer (some ⟨w.heap.size, 1, none⟩) := (ev a 68).symm.trans (hD _ (Array.mem_of_getElem? (i := 0) rfl) rfl).1
            clear hF hD
            have hc := hcells W hu
            go_simp
          · refine step_is _ rfl ⟨_, rfl⟩ rfl (fun _ _ => trivial) ?_
            intro a W hi hF hD
            have hu := hi.upd
            have e69 : a.tmps[69]?.getD undef = .int .i64 i := (ev a 69).symm.trans (hD _ (Array.mem_of_getElem? (i := 0) rfl) rfl).1
            clear hF hD
            have hc := hcells W hu
            go_simp
            rfl
          · refine step_run rfl (fun _ _ => trivial) ?_
            intro a W hi hF hD
            have hu := hi.upd
            have e67 : a.tmps[67]?.getD undef = .int .u8 (c % 256) := (ev a 67).symm.trans (hD _ (Array.mem_of_getElem? (i := 0) rfl) rfl).1
            have e70 : a.tmps[70]?.getD undef = .int .u8 (i % 256) := (ev a 70).symm.trans (hD _ (Array.mem_of_getElem? (i := 1) rfl) rfl).1
            clear hF hD
            have hc := hcells W hu
            exact ⟨_, _, by (go_simp; first | done | rfl | exact ⟨rfl, rfl⟩), (Upd.refl _ _).alloc _, _, Nat.zero_le _, rfl, Blk.new _ _ _⟩
          · refine step_is _ rfl ⟨_, rfl⟩ rfl (fun _ _ => trivial) ?_
            intro a W hi hF hD
            have hu := hi.upd
            obtain ⟨g71, _, e71, b71⟩ : ∃ g, 0 ≤ g ∧ a.eval (.tmp 71) = .slice (some ⟨g, 0, none⟩) 2 2 ∧ Blk W g 5 #[.int .u8 (c % 256), .int .u8 (i % 256)] := (hD _ (Array.mem_of_getElem? (i := 0) rfl) rfl).1
            rw [ev] at e71
            clear hF hD
            have hc := hcells W hu
            have hcv := str2 (P := Tryz.prog) (dst := 9) Tryz.underlying71 Tryz.underlying5 Tryz.underlying9 b71
            go_simp
          · refine step_is _ rfl ⟨_, rfl⟩ rfl (fun _ _ => trivial) ?_
            intro a W hi hF hD
            have hu := hi.upd
            have e4 : a.tmps[4]?.getD undef = _ := (ev a 4).symm.trans (hF 4 (by kernel_rfl))
            clear hF hD
            have hc := hcells W hu
            go_simp
          · refine step_is _ rfl ⟨_, rfl⟩ rfl (fun _ _ => trivial) ?_
            intro a W hi hF hD
            have hu := hi.upd
            have e73 : a.tmps[73]?.getD undef = .string (P0) := (ev a 73).symm.trans (hD _ (Array.mem_of_getElem? (i := 0) rfl) rfl).1
            clear hF hD
            have hc := hcells W hu
            go_simp
          · refine step_is _ rfl ⟨_, rfl⟩ rfl (fun _ _ => trivial) ?_
            intro a W hi hF hD
            have hu := hi.upd
            have e74 : a.tmps[74]?.getD undef = .int .i64 (P0).size := (ev a 74).symm.trans (hD _ (Array.mem_of_getElem? (i := 0) rfl) rfl).1
            clear hF hD
            have hc := hcells W hu
            go_simp
            exact IntWalk.i64_in _ (by omega)
          · refine step_call rfl (fun _ _ => trivial) ?_
            intro a W hi hF hD
            have hu := hi.upd
            have e75 : a.tmps[75]?.getD undef = .int .i64 (((P0).size : Int) + 4) := (ev a 75).symm.trans (hD _ (Array.mem_of_getElem? (i := 0) rfl) rfl).1
            clear hF hD
            have hc := hcells W hu
            refine ⟨_, _, by (go_simp; first | done | rfl | exact ⟨rfl, rfl⟩), ?_⟩
            refine (rtwo_any (((P0).size : Int) + 4) (by omega) _).mono ?_
            rintro e w2 ⟨rfl, hu2⟩
            first | exact ⟨_, rfl, hu2, rfl⟩ | (cases hu2; exact ⟨_, rfl, Upd.refl _ _, rfl⟩)
          · refine step_is _ rfl ⟨_, rfl⟩ rfl (fun _ _ => trivial) ?_
            intro a W hi hF hD
            have hu := hi.upd
            have e72 : a.tmps[72]?.getD undef = .string (strOfNums [c % 256, i % 256]) := (ev a 72).symm.trans (hD _ (Array.mem_of_getElem? (i := 0) rfl) rfl).1
            have e76 : a.tmps[76]?.getD undef = .string (be 2 (((P0).size : Int) + 4)) := (ev a 76).symm.trans (hD _ (Array.mem_of_getElem? (i := 1) rfl) rfl).1
            clear hF hD
            have hc := hcells W hu
            have := run_string_add_sum (P := Tryz.prog) W (strOfNums [c % 256, i % 256]) (be 2 (((P0).size : Int) + 4)) (by rw [strOfNums_size, be_size]; simp)
            go_simp
          · refine step_is _ rfl ⟨_, rfl⟩ rfl (fun _ _ => trivial) ?_
            intro a W hi hF hD
            have hu := hi.upd
            have e4 : a.tmps[4]?.getD undef = _ := (ev a 4).symm.trans (hF 4 (by kernel_rfl))
            clear hF hD
            have hc := hcells W hu
            go_simp
          · refine step_is _ rfl ⟨_, rfl⟩ rfl (fun _ _ => trivial) ?_
            intro a W hi hF hD
            have hu := hi.upd
            have e77 : a.tmps[77]?.getD undef = .string (strOfNums [c % 256, i % 256] ++ be 2 (((P0).size : Int) + 4)) := (ev a 77).symm.trans (hD _ (Array.mem_of_getElem? (i := 0) rfl) rfl).1
            have e78 : a.tmps[78]?.getD undef = .string (P0) := (ev a 78).symm.trans (hD _ (Array.mem_of_getElem? (i := 1) rfl) rfl).1
            clear hF hD
            have hc := hcells W hu
            have := run_string_add_sum (P := Tryz.prog) W (strOfNums [c % 256, i % 256] ++ be 2 (((P0).size : Int) + 4)) (P0) (by rw [ByteArray.size_append, strOfNums_size, be_size]; simp; omega)
            go_simp
          · refine step_is _ rfl ⟨_, rfl⟩ rfl (fun _ _ => trivial) ?_
            intro a W hi hF hD
            have hu := hi.upd
            have e79 : a.tmps[79]?.getD undef = .string (strOfNums [c % 256, i % 256] ++ be 2 (((P0).size : Int) + 4) ++ (P0)) := (ev a 79).symm.trans (hD _ (Array.mem_of_getElem? (i := 0) rfl) rfl).1
            clear hF hD
            have hc := hcells W hu
            go_simp
          · refine step_is _ rfl ⟨_, rfl⟩ rfl (fun _ _ => trivial) ?_
            intro a W hi hF hD
            have hu := hi.upd
            clear hF hD
            have hc := hcells W hu
            go_simp
        intro vals W hu hv
        have v0 : vals 0 = .pointer (some ⟨w.heap.size, 0, none⟩) := (hv 0 (by decide)).1
        have v1 : vals 1 = .int .i64 c := (hv 1 (by decide)).1
        have v2 : vals 2 = .int .u8 (c % 256) := (hv 2 (by decide)).1
        have v3 : vals 3 = .pointer (some ⟨w.heap.size, 1, none⟩) := (hv 3 (by decide)).1
        have v4 : vals 4 = .int .i64 i := (hv 4 (by decide)).1
        have v5 : vals 5 = .int .u8 (i % 256) := (hv 5 (by decide)).1
        obtain ⟨g6, _, v6, b6⟩ : ∃ g, 0 ≤ g ∧ vals 6 = .slice (some ⟨g, 0, none⟩) 2 2 ∧ Blk W g 5 #[.int .u8 (c % 256), .int .u8 (i % 256)] := (hv 6 (by decide)).1
        have v7 : vals 7 = .string (strOfNums [c % 256, i % 256]) := (hv 7 (by decide)).1
        have v8 : vals 8 = .string (P0) := (hv 8 (by decide)).1
        have v9 : vals 9 = .int .i64 (P0).size := (hv 9 (by decide)).1
        have v10 : vals 10 = .int .i64 (((P0).size : Int) + 4) := (hv 10 (by decide)).1
        have v11 : vals 11 = .string (be 2 (((P0).size : Int) + 4)) := (hv 11 (by decide)).1
        have v12 : vals 12 = .string (strOfNums [c % 256, i % 256] ++ be 2 (((P0).size : Int) + 4)) := (hv 12 (by decide)).1
        have v13 : vals 13 = .string (P0) := (hv 13 (by decide)).1
        have v14 : vals 14 = .string (strOfNums [c % 256, i % 256] ++ be 2 (((P0).size : Int) + 4) ++ (P0)) := (hv 14 (by decide)).1
        have v15 : vals 15 = .string (strOfNums [c % 256, i % 256] ++ be 2 (((P0).size : Int) + 4) ++ (P0)) := (hv 15 (by decide)).1
        have v16 : vals 16 = .int .i64 0 := (hv 16 (by decide)).1
        clear hv
        simp only [putAll, Act.put, Nat.zero_add, Nat.reduceAdd, v0, v1, v2, v3, v4, v5, v6, v7, v8, v9, v10, v11, v12, v13, v14, v15, v16, List.setIfInBounds_toArray, List.set_cons_zero, List.set_cons_succ]
        clear v0 v1 v2 v3 v4 v5 v6 v7 v8 v9 v10 v11 v12 v13 v14 v15 v16
        have HU3 := Lib.hid (HU2.out.trans hu)
        clear hu hcells
        go_wp2_with fail
        go_ret2
        exact ⟨rfl, HU3.out⟩

      · rw [if_pos p1]
        have p1' : (P1 != 0) = true := by simpa using p1
        clear p1
        go_enter Tryz.func8, Tryz.ntmps8

        go_wp2_with (first | (go_at_call 33; refine (rconf_any _ _).mono ?_; rintro e w1 ⟨rfl, rfl⟩; rw [HB.out]) | (go_at_call 10; refine (rputOptions_any l _ _ HLW.out HLS.out).mono ?_; rintro e w2 ⟨rfl, hu2⟩; rw [HP.out]; have HU2 := Lib.hid (U0.out.trans hu2); have HA2 := Lib.hid (HA0.out.upd hu2 (by simp)); have c0 := HA2.out.cell 0; have c1 := HA2.out.cell 1; have c3 := HA2.out.cell 3; simp only [List.size_toArray, List.length_cons, List.length_nil, List.getElem?_toArray, List.getElem?_cons_zero, List.getElem?_cons_succ] at c0 c1 c3; clear hu2))
        go_ret2
        exact ⟨rfl, HU2.out⟩
end Go.Proofs.YthkfgjmifoeljaaGreat
