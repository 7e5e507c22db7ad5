/- The walk of digest.on. -/
import Derived.Test.YtglafpdealjlnaaGreatQDigB
import Derived.Test.YtglafpdealjlnaaGreatQDigT
namespace Go.Proofs.YtglafpdealjlnaaGreat
open Go.RowKit
set_option linter.unusedSimpArgs false
set_option linter.unusedVariables false
set_option maxRecDepth 100000

def Q4.row (s : Q4) : Array Value := #[.int .u32 s.a.toNat, .int .u32 s.b.toNat, .int .u32 s.c.toNat, .int .u32 s.d.toNat]
theorem mixK_lt (i : Nat) (h : i < 64) : mixK i < 16 := by 
  unfold mixK
  by_cases h1 : i < 16
  · rw [if_pos h1]; omega
  rw [if_neg h1]
  by_cases h2 : i < 32
  · rw [if_pos h2]; omega
  rw [if_neg h2]
  by_cases h3 : i < 48
  · rw [if_pos h3]; omega
  rw [if_neg h3]; omega
theorem wrapadd_u (x y : U) : IntKind.u32.wrap ((x.toNat : Int) + y.toNat) = ((x + y).toNat : Int) := by
  rw [BitVec.toNat_add]
  have := x.isLt
  have := y.isLt
  simp [IntKind.wrap, IntKind.bits, IntKind.signed]
theorem turnN_lt (i : Nat) : turnN i < 32 := by
  unfold turnN
  generalize i / 16 * 4 + i % 4 = j
  by_cases h : j < 16
  · revert h
    revert j
    decide
  · rw [List.getElem?_eq_none (by simp [turnL]; omega)]
    decide

set_option maxHeartbeats 4000000 in
theorem on_any (s : Q4) (ws : Nat → U) (w : World) :
    Calls Tryz.prog 338 #[.agg s.row, .agg (uRow ws 16)] w fun e w' => e = .returned (.agg (onU s ws).row) ∧ Upd [] w w' := by
  have A0 : Blk (((w.alloc (Obj.cells s.row 376)).alloc (Obj.cells (uRow ws 16) 378)).alloc (Obj.cells #[Value.int .u32 0, Value.int .u32 0, Value.int .u32 0, Value.int .u32 0] 376)) w.heap.size 376 s.row := ((Blk.new w 376 s.row).alloc _).alloc _
  have A1 : Blk (((w.alloc (Obj.cells s.row 376)).alloc (Obj.cells (uRow ws 16) 378)).alloc (Obj.cells #[Value.int .u32 0, Value.int .u32 0, Value.int .u32 0, Value.int .u32 0] 376)) (w.heap.size + 1) 378 (uRow ws 16) := by
    have := (Blk.new (w.alloc (Obj.cells s.row 376)) 378 (uRow ws 16)).alloc (Obj.cells #[Value.int .u32 0, Value.int .u32 0, Value.int .u32 0, Value.int .u32 0] 376)
    rwa [World.size_alloc] at this
  have A2 : Blk (((w.alloc (Obj.cells s.row 376)).alloc (Obj.cells (uRow ws 16) 378)).alloc (Obj.cells #[Value.int .u32 0, Value.int .u32 0, Value.int .u32 0, Value.int .u32 0] 376)) (w.heap.size + 1 + 1) 376 #[Value.int .u32 0, Value.int .u32 0, Value.int .u32 0, Value.int .u32 0] := by
    have := Blk.new ((w.alloc (Obj.cells s.row 376)).alloc (Obj.cells (uRow ws 16) 378)) 376 #[Value.int .u32 0, Value.int .u32 0, Value.int .u32 0, Value.int .u32 0]
    rwa [World.size_alloc, World.size_alloc] at this
  have U1 : Upd [] w (((w.alloc (Obj.cells s.row 376)).alloc (Obj.cells (uRow ws 16) 378)).alloc (Obj.cells #[Value.int .u32 0, Value.int .u32 0, Value.int .u32 0, Value.int .u32 0] 376)) := (((Upd.refl _ _).alloc _).alloc _).alloc _
  go_enter Tryz.func338, Tryz.ntmps338
  go_upto_region 1 with (fail)
  generalize ((w.alloc (Obj.cells s.row 376)).alloc (Obj.cells (uRow ws 16) 378)).alloc (Obj.cells #[Value.int .u32 0, Value.int .u32 0, Value.int .u32 0, Value.int .u32 0] 376) = w1 at *
  obtain ⟨sa, sb, sc, sd⟩ := s
  simp only [Q4.row] at A0 ⊢
  have c0 := A0.cell 0
  have c1 := A0.cell 1
  have c2 := A0.cell 2
  have c3 := A0.cell 3
  go_quiet (fail)
  clear c0 c1 c2 c3
  go_wp2_with fail
  go_loopg [5, 6, 7, 8, 20] 64 (fun m s5 s6 s7 s8 s20 wr => ∃ (k : Nat) (q : Q4), k + m = 64 ∧ s20 = .int .i64 k ∧ s5 = .int .u32 q.a.toNat ∧ s6 = .int .u32 q.b.toNat ∧ s7 = .int .u32 q.c.toNat ∧ s8 = .int .u32 q.d.toNat ∧ q = stepsU ws ⟨sa, sb, sc, sd⟩ k ∧ Upd [] w1 wr)
  case atStart => exact ⟨0, ⟨sa, sb, sc, sd⟩, rfl, rfl, rfl, rfl, rfl, rfl, rfl, Upd.drewN _ (Upd.refl _ _)⟩
  case round =>
    obtain ⟨k, q, hk, rfl, rfl, rfl, rfl, rfl, hq, hu⟩ := hrel
    by_cases t : k < 64
    · obtain ⟨qa, qb, qc, qd⟩ := q
      dsimp only
      have HQ : Hid (stepsU ws ⟨sa, sb, sc, sd⟩ (k + 1) = ⟨qd, qb + rotU (qa + mixF k qb qc qd + tabU k + ws (mixK k)) (turnN k), qb, qc⟩) := by
        show _ = _
        rw [stepsU, ← hq]
        rfl
      have HM := mix_any k qb qc qd t
      have HT := table_any k t
      have HN := turn_any k t
      have hmk := mixK_lt k t
      have htn := turnN_lt k
      generalize mixK k = mk at *
      generalize mixF k qb qc qd = f at *
      generalize tabU k = tb at *
      generalize turnN k = tn at *
      have h1 := wrapadd_u qa f
      generalize qa + f = s1 at *
      have h2 := wrapadd_u s1 tb
      generalize s1 + tb = s2 at *
      have h3 := wrapadd_u s2 (ws mk)
      generalize s2 + ws mk = s3 at *
      have HR := rotate_any s3 tn htn
      generalize rotU s3 tn = r at *
      have h4 := wrapadd_u qb r
      generalize qb + r = s4 at *
      replace HM := Lib.hid HM
      replace HT := Lib.hid HT
      replace HN := Lib.hid HN
      replace HR := Lib.hid HR
      have hcell : ∀ W, Upd [] w1 W → W.cell? ⟨w.heap.size + 1, mk, none⟩ = some (.int .u32 (ws mk).toNat) := fun W hW => ((A1.upd hW (by simp)).cell _).trans (uRow_get _ _ _ hmk)
      have HU := Lib.hid hu
      clear hq hu A0 A1 A2 U1
      go_wp2_with fail
      refine (HM.out _).mono ?_
      rintro e w2 ⟨rfl, rfl⟩
      go_wp2_with fail
      have hcells : ∀ W, Upd [] wr W → W.cell? ⟨w.heap.size + 1, mk, none⟩ = some (.int .u32 (ws mk).toNat) := fun W hW => hcell W (HU.out.trans hW)
      refine wp_region_facts (.pure) (trivial) [.is (.int .u32 qd.toNat), .is (.int .u32 qb.toNat), .is (.int .u32 qa.toNat), .is (.int .u32 f.toNat), .is (.int .u32 s1.toNat), .is (.int .i64 k), .is (.int .u32 tb.toNat), .is (.int .u32 s2.toNat), .is (.int .i64 mk), .is (.pointer (some ⟨w.heap.size + 1, mk, none⟩)), .is (.int .u32 (ws mk).toNat), .is (.int .u32 s3.toNat), .is (.int .i64 k), .is (.int .i64 tn), .is (.int .u32 r.toNat), .is (.int .u32 s4.toNat), .is (.int .u32 qb.toNat), .is (.int .u32 qc.toNat), .is (.int .u32 qd.toNat), .is (.int .u32 s4.toNat), .is (.int .u32 qb.toNat), .is (.int .u32 qc.toNat)] (by kernel_rfl) (by kernel_rfl) (by kernel_rfl) (by kernel_rfl) ?_ ?_
      · refine Steps.cons ?_ (Steps.cons ?_ (Steps.cons ?_ (Steps.cons ?_ (Steps.cons ?_ (Steps.cons ?_ (Steps.cons ?_ (Steps.cons ?_ (Steps.cons ?_ (Steps.cons ?_ (Steps.cons ?_ (Steps.cons ?_ (Steps.cons ?_ (Steps.cons ?_ (Steps.cons ?_ (Steps.cons ?_ (Steps.cons ?_ (Steps.cons ?_ (Steps.cons ?_ (Steps.cons ?_ (Steps.cons ?_ (Steps.cons ?_ Steps.nil)))))))))))))))))))))
        · refine step_is _ rfl ⟨_, rfl⟩ rfl (fun _ _ => trivial) ?_
          intro a W hi hF hD
          have hu := hi.upd
          have e8 : a.tmps[8]?.getD undef = _ := (ev a 8).symm.trans (hF 8 (by kernel_rfl))
          clear hF hD
          have hc := hcells W hu
          go_simp
        · refine step_is _ rfl ⟨_, rfl⟩ rfl (fun _ _ => trivial) ?_
          intro a W hi hF hD
          have hu := hi.upd
          have e6 : a.tmps[6]?.getD undef = _ := (ev a 6).symm.trans (hF 6 (by kernel_rfl))
          clear hF hD
          have hc := hcells W hu
          go_simp
        · refine step_is _ rfl ⟨_, rfl⟩ rfl (fun _ _ => trivial) ?_
          intro a W hi hF hD
          have hu := hi.upd
          have e5 : a.tmps[5]?.getD undef = _ := (ev a 5).symm.trans (hF 5 (by kernel_rfl))
          clear hF hD
          have hc := hcells W hu
          go_simp
        · refine step_is _ rfl ⟨_, rfl⟩ rfl (fun _ _ => trivial) ?_
          intro a W hi hF hD
          have hu := hi.upd
          have e10 : a.tmps[10]?.getD undef = _ := (ev a 10).symm.trans (hF 10 (by kernel_rfl))
          clear hF hD
          have hc := hcells W hu
          go_simp
        · refine step_is _ rfl ⟨_, rfl⟩ rfl (fun _ _ => trivial) ?_
          intro a W hi hF hD
          have hu := hi.upd
          have e33 : a.tmps[33]?.getD undef = .int .u32 qa.toNat := (ev a 33).symm.trans (hD _ (Array.mem_of_getElem? (i := 0) rfl) rfl).1
          have e34 : a.tmps[34]?.getD undef = .int .u32 f.toNat := (ev a 34).symm.trans (hD _ (Array.mem_of_getElem? (i := 1) rfl) rfl).1
          clear hF hD
          have hc := hcells W hu
          go_simp
        · refine step_is _ rfl ⟨_, rfl⟩ rfl (fun _ _ => trivial) ?_
          intro a W hi hF hD
          have hu := hi.upd
          have e9 : a.tmps[9]?.getD undef = _ := (ev a 9).symm.trans (hF 9 (by kernel_rfl))
          clear hF hD
          have hc := hcells W hu
          go_simp
        · refine step_call rfl (fun _ _ => trivial) ?_
          intro a W hi hF hD
          have hu := hi.upd
          have e36 : a.tmps[36]?.getD undef = .int .i64 k := (ev a 36).symm.trans (hD _ (Array.mem_of_getElem? (i := 0) rfl) rfl).1
          clear hF hD
          have hc := hcells W hu
          refine ⟨_, _, by (go_simp; first | done | rfl | exact ⟨rfl, rfl⟩), ?_⟩
          refine (HT.out _).mono ?_
          rintro e w2 ⟨rfl, hu2⟩
          first | exact ⟨_, rfl, hu2, rfl⟩ | (cases hu2; exact ⟨_, rfl, Upd.refl _ _, rfl⟩)
        · refine step_is _ rfl ⟨_, rfl⟩ rfl (fun _ _ => trivial) ?_
          intro a W hi hF hD
          have hu := hi.upd
          have e35 : a.tmps[35]?.getD undef = .int .u32 s1.toNat := (ev a 35).symm.trans (hD _ (Array.mem_of_getElem? (i := 0) rfl) rfl).1
          have e37 : a.tmps[37]?.getD undef = .int .u32 tb.toNat := (ev a 37).symm.trans (hD _ (Array.mem_of_getElem? (i := 1) rfl) rfl).1
          clear hF hD
          have hc := hcells W hu
          go_simp
        · refine step_is _ rfl ⟨_, rfl⟩ rfl (fun _ _ => trivial) ?_
          intro a W hi hF hD
          have hu := hi.upd
          have e11 : a.tmps[11]?.getD undef = _ := (ev a 11).symm.trans (hF 11 (by kernel_rfl))
          clear hF hD
          have hc := hcells W hu
          go_simp
        · refine step_is _ rfl ⟨_, rfl⟩ rfl (fun _ _ => trivial) ?_
          intro a W hi hF hD
          have hu := hi.upd
          have e39 : a.tmps[39]?.getD undef = .int .i64 mk := (ev a 39).symm.trans (hD _ (Array.mem_of_getElem? (i := 0) rfl) rfl).1
          have e3 : a.tmps[3]?.getD undef = _ := (ev a 3).symm.trans (hF 3 (by kernel_rfl))
          clear hF hD
          have hc := hcells W hu
          go_simp
          intros
          omega
        · refine step_is _ rfl ⟨_, rfl⟩ rfl (fun _ _ => trivial) ?_
          intro a W hi hF hD
          have hu := hi.upd
          have e40 : a.tmps[40]?.getD undef = .pointer (some ⟨w.heap.size + 1, mk, none⟩) := (ev a 40).symm.trans (hD _ (Array.mem_of_getElem? (i := 0) rfl) rfl).1
          clear hF hD
          have hc := hcells W hu
          go_simp
        · refine step_is _ rfl ⟨_, rfl⟩ rfl (fun _ _ => trivial) ?_
          intro a W hi hF hD
          have hu := hi.upd
          have e38 : a.tmps[38]?.getD undef = .int .u32 s2.toNat := (ev a 38).symm.trans (hD _ (Array.mem_of_getElem? (i := 0) rfl) rfl).1
          have e41 : a.tmps[41]?.getD undef = .int .u32 (ws mk).toNat := (ev a 41).symm.trans (hD _ (Array.mem_of_getElem? (i := 1) rfl) rfl).1
          clear hF hD
          have hc := hcells W hu
          go_simp
        · refine step_is _ rfl ⟨_, rfl⟩ rfl (fun _ _ => trivial) ?_
          intro a W hi hF hD
          have hu := hi.upd
          have e9 : a.tmps[9]?.getD undef = _ := (ev a 9).symm.trans (hF 9 (by kernel_rfl))
          clear hF hD
          have hc := hcells W hu
          go_simp
        · refine step_call rfl (fun _ _ => trivial) ?_
          intro a W hi hF hD
          have hu := hi.upd
          have e43 : a.tmps[43]?.getD undef = .int .i64 k := (ev a 43).symm.trans (hD _ (Array.mem_of_getElem? (i := 0) rfl) rfl).1
          clear hF hD
          have hc := hcells W hu
          refine ⟨_, _, by (go_simp; first | done | rfl | exact ⟨rfl, rfl⟩), ?_⟩
          refine (HN.out _).mono ?_
          rintro e w2 ⟨rfl, hu2⟩
          first | exact ⟨_, rfl, hu2, rfl⟩ | (cases hu2; exact ⟨_, rfl, Upd.refl _ _, rfl⟩)
        · refine step_call rfl (fun _ _ => trivial) ?_
          intro a W hi hF hD
          have hu := hi.upd
          have e42 : a.tmps[42]?.getD undef = .int .u32 s3.toNat := (ev a 42).symm.trans (hD _ (Array.mem_of_getElem? (i := 0) rfl) rfl).1
          have e44 : a.tmps[44]?.getD undef = .int .i64 tn := (ev a 44).symm.trans (hD _ (Array.mem_of_getElem? (i := 1) rfl) rfl).1
          clear hF hD
          have hc := hcells W hu
          refine ⟨_, _, by (go_simp; first | done | rfl | exact ⟨rfl, rfl⟩), ?_⟩
          refine (HR.out _).mono ?_
          rintro e w2 ⟨rfl, hu2⟩
          first | exact ⟨_, rfl, hu2, rfl⟩ | (cases hu2; exact ⟨_, rfl, Upd.refl _ _, rfl⟩)
        · refine step_is _ rfl ⟨_, rfl⟩ rfl (fun _ _ => trivial) ?_
          intro a W hi hF hD
          have hu := hi.upd
          have e32 : a.tmps[32]?.getD undef = .int .u32 qb.toNat := (ev a 32).symm.trans (hD _ (Array.mem_of_getElem? (i := 0) rfl) rfl).1
          have e45 : a.tmps[45]?.getD undef = .int .u32 r.toNat := (ev a 45).symm.trans (hD _ (Array.mem_of_getElem? (i := 1) rfl) rfl).1
          clear hF hD
          have hc := hcells W hu
          go_simp
        · refine step_is _ rfl ⟨_, rfl⟩ rfl (fun _ _ => trivial) ?_
          intro a W hi hF hD
          have hu := hi.upd
          have e6 : a.tmps[6]?.getD undef = _ := (ev a 6).symm.trans (hF 6 (by kernel_rfl))
          clear hF hD
          have hc := hcells W hu
          go_simp
        · refine step_is _ rfl ⟨_, rfl⟩ rfl (fun _ _ => trivial) ?_
          intro a W hi hF hD
          have hu := hi.upd
          have e7 : a.tmps[7]?.getD undef = _ := (ev a 7).symm.trans (hF 7 (by kernel_rfl))
          clear hF hD
          have hc := hcells W hu
          go_simp
        · refine step_is _ rfl ⟨_, rfl⟩ rfl (fun _ _ => trivial) ?_
          intro a W hi hF hD
          have hu := hi.upd
          have e31 : a.tmps[31]?.getD undef = .int .u32 qd.toNat := (ev a 31).symm.trans (hD _ (Array.mem_of_getElem? (i := 0) rfl) rfl).1
          clear hF hD
          have hc := hcells W hu
          go_simp
        · refine step_is _ rfl ⟨_, rfl⟩ rfl (fun _ _ => trivial) ?_
          intro a W hi hF hD
          have hu := hi.upd
          have e46 : a.tmps[46]?.getD undef = .int .u32 s4.toNat := (ev a 46).symm.trans (hD _ (Array.mem_of_getElem? (i := 0) rfl) rfl).1
          clear hF hD
          have hc := hcells W hu
          go_simp
        · refine step_is _ rfl ⟨_, rfl⟩ rfl (fun _ _ => trivial) ?_
          intro a W hi hF hD
          have hu := hi.upd
          have e47 : a.tmps[47]?.getD undef = .int .u32 qb.toNat := (ev a 47).symm.trans (hD _ (Array.mem_of_getElem? (i := 0) rfl) rfl).1
          clear hF hD
          have hc := hcells W hu
          go_simp
        · refine step_is _ rfl ⟨_, rfl⟩ rfl (fun _ _ => trivial) ?_
          intro a W hi hF hD
          have hu := hi.upd
          have e48 : a.tmps[48]?.getD undef = .int .u32 qc.toNat := (ev a 48).symm.trans (hD _ (Array.mem_of_getElem? (i := 0) rfl) rfl).1
          clear hF hD
          have hc := hcells W hu
          go_simp
      intro vals W hu hv
      have v0 : vals 0 = .int .u32 qd.toNat := (hv 0 (by decide)).1
      have v1 : vals 1 = .int .u32 qb.toNat := (hv 1 (by decide)).1
      have v2 : vals 2 = .int .u32 qa.toNat := (hv 2 (by decide)).1
      have v3 : vals 3 = .int .u32 f.toNat := (hv 3 (by decide)).1
      have v4 : vals 4 = .int .u32 s1.toNat := (hv 4 (by decide)).1
      have v5 : vals 5 = .int .i64 k := (hv 5 (by decide)).1
      have v6 : vals 6 = .int .u32 tb.toNat := (hv 6 (by decide)).1
      have v7 : vals 7 = .int .u32 s2.toNat := (hv 7 (by decide)).1
      have v8 : vals 8 = .int .i64 mk := (hv 8 (by decide)).1
      have v9 : vals 9 = .pointer (some ⟨w.heap.size + 1, mk, none⟩) := (hv 9 (by decide)).1
      have v10 : vals 10 = .int .u32 (ws mk).toNat := (hv 10 (by decide)).1
      have v11 : vals 11 = .int .u32 s3.toNat := (hv 11 (by decide)).1
      have v12 : vals 12 = .int .i64 k := (hv 12 (by decide)).1
      have v13 : vals 13 = .int .i64 tn := (hv 13 (by decide)).1
      have v14 : vals 14 = .int .u32 r.toNat := (hv 14 (by decide)).1
      have v15 : vals 15 = .int .u32 s4.toNat := (hv 15 (by decide)).1
      have v16 : vals 16 = .int .u32 qb.toNat := (hv 16 (by decide)).1
      have v17 : vals 17 = .int .u32 qc.toNat := (hv 17 (by decide)).1
      have v18 : vals 18 = .int .u32 qd.toNat := (hv 18 (by decide)).1
      have v19 : vals 19 = .int .u32 s4.toNat := (hv 19 (by decide)).1
      have v20 : vals 20 = .int .u32 qb.toNat := (hv 20 (by decide)).1
      have v21 : vals 21 = .int .u32 qc.toNat := (hv 21 (by decide)).1
      clear hv
      simp only [putAll, Act.put, Nat.zero_add, Nat.reduceAdd, v0, v1, v2, v3, v4, v5, v6, v7, v8, v9, v10, v11, v12, v13, v14, v15, v16, v17, v18, v19, v20, v21, List.setIfInBounds_toArray, List.set_cons_zero, List.set_cons_succ]
      clear v0 v1 v2 v3 v4 v5 v6 v7 v8 v9 v10 v11 v12 v13 v14 v15 v16 v17 v18 v19 v20 v21
      have HU2 := Lib.hid (HU.out.trans hu)
      clear hu hcells hcell HU
      go_wp2_with fail
      go_roundg (64 - (k + 1))
      case rel => exact ⟨k + 1, ⟨qd, s4, qb, qc⟩, by omega, by go_num, rfl, rfl, rfl, rfl, HQ.out.symm, HU2.out⟩
      case measure => omega
    · obtain rfl : k = 64 := by omega
      obtain ⟨qa, qb, qc, qd⟩ := q
      dsimp only
      have HQ : Hid (onU ⟨sa, sb, sc, sd⟩ ws = ⟨sa + qa, sb + qb, sc + qc, sd + qd⟩) := by
        show _ = _
        rw [onU, ← hq]
      have B0 := A0.upd hu (by simp)
      have B2 := A2.upd hu (by simp)
      have c0 := B0.cell 0
      have c1 := B0.cell 1
      have c2 := B0.cell 2
      have c3 := B0.cell 3
      have d0 := B2.cell 0
      have d1 := B2.cell 1
      have d2 := B2.cell 2
      have d3 := B2.cell 3
      have f0 := B2.frozen 0
      have f1 := B2.frozen 1
      have f2 := B2.frozen 2
      have f3 := B2.frozen 3
      have HU := Lib.hid (U1.trans hu)
      have HB := Lib.hid B2
      clear A0 A1 A2 B0 B2 hu hq
      go_wp2_with fail
      rw [add_u, add_u, add_u, add_u, HQ.out]
      have hB := (((HB.out.set_ 0 (.int .u32 (sa + qa).toNat)).set_ 1 (.int .u32 (sb + qb).toNat)).set_ 2 (.int .u32 (sc + qc).toNat)).set_ 3 (.int .u32 (sd + qd).toNat)
      have hu3 := (((HU.out.setCell (p := ⟨w.heap.size + 1 + 1, 0, none⟩) (.int .u32 (sa + qa).toNat) (.inr (by show _ ≤ w.heap.size + 1 + 1; omega))).setCell (p := ⟨w.heap.size + 1 + 1, 1, none⟩) (.int .u32 (sb + qb).toNat) (.inr (by show _ ≤ w.heap.size + 1 + 1; omega))).setCell (p := ⟨w.heap.size + 1 + 1, 2, none⟩) (.int .u32 (sc + qc).toNat) (.inr (by show _ ≤ w.heap.size + 1 + 1; omega))).setCell (p := ⟨w.heap.size + 1 + 1, 3, none⟩) (.int .u32 (sd + qd).toNat) (.inr (by show _ ≤ w.heap.size + 1 + 1; omega))
      exact bodyPost_ret (results_cell_row rfl _ _ (w.heap.size + 1 + 1) _ _ _ _ rfl (hB.of_eq (cs' := (Q4.row ⟨sa + qa, sb + qb, sc + qc, sd + qd⟩)) rfl) Tryz.underlying376 rfl (by kernel_rfl)) rfl ⟨rfl, hu3⟩
end Go.Proofs.YtglafpdealjlnaaGreat
