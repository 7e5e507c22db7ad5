/- WRITTEN by wip/gen/rctlt.py. The walk of Take of the document's channel. -/
import Derived.Test.YtdccmlpikjbcaaaGreatRCtlA
import Derived.Deep.DeepCutAuto
import Derived.Deep.LoopGhost
namespace Go.Proofs.YtdccmlpikjbcaaaGreat
open Go.RowKit
set_option linter.unusedSimpArgs false
set_option linter.unusedVariables false
set_option maxRecDepth 100000

theorem same_sym {f : FuncId} {args : Array Value} {w : World} {v : Value} (h : Calls Tryz.prog f args w fun e w' => e = .returned v ∧ w = w') : Calls Tryz.prog f args w fun e w' => e = .returned v ∧ w' = w :=
  h.mono fun e w' ⟨h1, h2⟩ => ⟨h1, h2.symm⟩
theorem Own.one_at {V : World} {t : TypeId} {v : Value} {n : Nat} (h : n = V.heap.size) : Own (V.alloc (.cells #[v] t)) t 1 (.slice (some ⟨n, 0, none⟩) 1 1) 1 [v] [n] := by
  subst h
  exact Own.one_new V t v
/-- The channel d, with what c had of time. -/
def C.asof (d c : C) : C := { d with tries := c.tries, ticks := c.ticks, again := c.again }
theorem C.grow_time (c : C) : c.grow.tries = c.tries ∧ c.grow.ticks = c.ticks ∧ c.grow.again = c.again := by unfold C.grow; (repeat' split) <;> exact ⟨rfl, rfl, rfl⟩
theorem C.pop_time (c : C) : c.pop.tries = 0 ∧ c.pop.ticks = 0 ∧ c.pop.again = false := C.grow_time _
theorem C.grow_asof (d c : C) : (d.asof c).grow = d.grow.asof c := by unfold C.grow C.asof; (repeat' split) <;> first | rfl | simp_all
theorem C.pop_asof (d c : C) : d.pop.asof c = (({ d with flies := d.flies.tail } : C).asof c).grow := by
  unfold C.pop
  rw [C.grow_asof]
  simp only [C.asof, C.grow]
  (repeat' split) <;> first | rfl | simp_all
theorem C.asof_self (c : C) : c.asof c = c := rfl
theorem C.asof_zero {d : C} (c : C) (h : d.tries = 0 ∧ d.ticks = 0 ∧ d.again = false) : { d.asof c with tries := 0, ticks := 0, again := false } = d := by
  obtain ⟨h1, h2, h3⟩ := h
  cases d
  simp only at h1 h2 h3
  subst h1 h2 h3
  rfl
theorem C.acked_else {c : C} {nr : Int} (h : ¬ (0 < c.flies.length ∧ bef nr c.first = false ∧ bef c.sent nr = false)) : c.acked nr = c := by
  unfold C.acked
  split
  · rfl
  · rename_i h2
    have h3 : ¬ 0 < c.flies.length := fun h4 => h ⟨h4, by simpa using fun e => h2 (.inl e), by simpa using fun e => h2 (.inr e)⟩
    rw [show c.flies.length = 0 by omega]
    rfl

structure RTakeEnd (w : World) (b : Nat) (vw : Value) (of : List Nat) (p : C × List ByteArray) (e : Ending) (w' : World) : Prop where
  ex : ∃ vf' v ol, e = .returned v ∧ Blk w' b 74 (p.1.rcells vw vf') ∧ Own w' 86 2 vf' p.1.flies.length p.1.rflies of ∧
    Own w' 9 1 v p.2.length (strs p.2) ol ∧ (∀ k, k ∈ ol → w.heap.size ≤ k) ∧ Upd [b] w w'
/-- The acknowledging is over. -/
def RAck (w : World) (b : Nat) (vw : Value) (of : List Nat) (d : C) (ics : Array Value) (V : World) : Prop :=
  ∃ vf', Blk V b 74 (d.rcells vw vf') ∧ Own V 86 2 vf' d.flies.length d.rflies of ∧ Blk V w.heap.size 60 ics ∧ Upd [b] w V
theorem RAck.of {w wr V : World} {b n : Nat} {vw vf : Value} {of : List Nat} {d : C} {ics : Array Value} (hnb : b ∉ of) (hlt : b < w.heap.size) (hn : n = d.flies.length) (hb : Blk V b 74 (d.rcells vw vf)) (hu : Upd [b] wr V)
    (ho : Own wr 86 2 vf n d.rflies of) (hi : Blk wr w.heap.size 60 ics) (hu0 : Upd [b] w wr) : RAck w b vw of d ics V := by
  subst hn
  exact ⟨vf, hb, ho.upd hu (fun k hk => by simp; rintro rfl; exact hnb hk), hi.upd hu (by simp; omega), hu0.trans hu⟩
/-- In the acknowledging. -/
def RAcking (w : World) (b : Nat) (c : C) (nr : Int) (vw : Value) (of : List Nat) (ics : Array Value) (x : Nat) (sm : Bool) (wr : World) : Prop :=
  ∃ d vf1, d.ok ∧ C.ackLoop nr x d = c.acked nr ∧ d.flies.length ≤ x ∧ (sm = false → d = c) ∧ (sm = true → d.tries = 0 ∧ d.ticks = 0 ∧ d.again = false) ∧
    Blk wr b 74 ((d.asof c).rcells vw vf1) ∧ Own wr 86 2 vf1 d.flies.length d.rflies of ∧ Blk wr w.heap.size 60 ics ∧ Upd [b] w wr

set_option maxHeartbeats 4000000 in
theorem rtake_any (b : Nat) (c : C) (vw vf : Value) (ns nr : Int) (body : ByteArray) (of : List Nat) (w : World) (hk : c.ok) (hb : Blk w b 74 (c.rcells vw vf))
    (hf : Own w 86 2 vf c.flies.length c.rflies of) :
    Calls Tryz.prog 10 #[.pointer (some ⟨b, 0, none⟩), .agg #[.int .i64 ns, .int .i64 nr, .string body]] w (RTakeEnd w b vw of (c.take ns nr body)) := by
  have hblt := hb.lt
  have hnb : b ∉ of := hf.ne_blk hb (by decide)
  have h15 := hb.cell 15
  simp [C.rcells] at h15
  have HB0 := Lib.hid (hb.alloc (.cells #[.int .i64 ns, .int .i64 nr, .string body] 60))
  have HF0 := Lib.hid (hf.alloc (.cells #[.int .i64 ns, .int .i64 nr, .string body] 60))
  have HI0 := Lib.hid (Blk.new w 60 #[.int .i64 ns, .int .i64 nr, .string body])
  have HU0 : Hid (Upd [b] w (w.alloc (.cells #[.int .i64 ns, .int .i64 nr, .string body] 60))) := (Upd.refl _ _).alloc _
  by_cases t1 : c.dead = true
  · have HC := Lib.hid (show c.take ns nr body = (c, []) by unfold C.take; rw [if_pos (.inl t1)])
    go_enter Tryz.func10, Tryz.ntmps10
    go_wp2_with (go_at_call 32; refine (rword_any _ _).mono ?_; rintro e w' ⟨rfl, rfl⟩)
    go_ret
    rw [HC.out]
    exact ⟨_, _, [], rfl, HB0.out, HF0.out, Own.nil _ _ _, by simp, HU0.out⟩
  have t1 : c.dead = false := by simpa using t1
  by_cases t2 : in16 ns = true
  case neg =>
    have t2 : in16 ns = false := by simpa using t2
    have HC := Lib.hid (show c.take ns nr body = (c, []) by unfold C.take; rw [if_pos (.inr (.inl (by rw [← in16_iff]; simp [t2])))])
    go_enter Tryz.func10, Tryz.ntmps10
    go_wp2_with (go_at_call 32; refine (rword_any _ _).mono ?_; rintro e w' ⟨rfl, rfl⟩)
    go_ret
    rw [HC.out]
    exact ⟨_, _, [], rfl, HB0.out, HF0.out, Own.nil _ _ _, by simp, HU0.out⟩
  by_cases t3 : in16 nr = true
  case neg =>
    have t3 : in16 nr = false := by simpa using t3
    have HC := Lib.hid (show c.take ns nr body = (c, []) by unfold C.take; rw [if_pos (.inr (.inr (by rw [← in16_iff]; simp [t3])))])
    go_enter Tryz.func10, Tryz.ntmps10
    go_wp2_with (go_at_call 32; refine (rword_any _ _).mono ?_; rintro e w' ⟨rfl, rfl⟩)
    go_ret
    rw [HC.out]
    exact ⟨_, _, [], rfl, HB0.out, HF0.out, Own.nil _ _ _, by simp, HU0.out⟩
  have HC0 : Hid (¬ (c.dead = true ∨ ¬ (0 ≤ ns ∧ ns ≤ 65535) ∨ ¬ (0 ≤ nr ∧ nr ≤ 65535))) := by
    show ¬ _
    rw [in16_iff] at t2 t3; simp [t1, t2, t3]
  have NR : 0 ≤ nr ∧ nr < 65536 := by rw [in16_iff] at t3; omega
  have SE : 0 ≤ c.sent ∧ c.sent < 65536 := ⟨hk.s1, hk.s2⟩
  have F1 := c.first_bd
  obtain ⟨ao, cap, rfl, hcap, hmx⟩ := hf.shape
  obtain ⟨n, hn⟩ : ∃ n, n = c.flies.length := ⟨_, rfl⟩
  rw [← hn] at hcap
  have hl2 := hk.l2
  rw [← hn] at hl2
  have HN := Lib.hid hn
  have HK := Lib.hid hk
  obtain ⟨ics, hics⟩ : ∃ x, x = #[Value.int .i64 ns, .int .i64 nr, .string body] := ⟨_, rfl⟩
  obtain ⟨FI, hFI⟩ : ∃ x, x = c.first := ⟨_, rfl⟩
  rw [← hFI] at F1
  have HFI := Lib.hid hFI
  obtain ⟨tb, t4⟩ : ∃ tb : Bool, Hid ((tb = true ∧ 0 < n ∧ bef nr FI = false ∧ bef c.sent nr = false) ∨ (tb = false ∧ 0 < n ∧ bef nr FI = false ∧ bef c.sent nr = true) ∨ (tb = false ∧ 0 < n ∧ bef nr FI = true) ∨ (tb = false ∧ n = 0)) := by
    by_cases h1 : 0 < n
    · rcases Bool.eq_false_or_eq_true (bef nr FI) with h2 | h2
      · exact ⟨false, .inr (.inr (.inl ⟨rfl, h1, h2⟩))⟩
      · rcases Bool.eq_false_or_eq_true (bef c.sent nr) with h3 | h3
        · exact ⟨false, .inr (.inl ⟨rfl, h1, h2, h3⟩)⟩
        · exact ⟨true, .inl ⟨rfl, h1, h2, h3⟩⟩
    · exact ⟨false, .inr (.inr (.inr ⟨rfl, by omega⟩))⟩
  clear hb hf hn hk hFI
  go_enter Tryz.func10, Tryz.ntmps10
  go_upto_region 3 with (go_at_call 32; refine (rword_any _ _).mono ?_; rintro e w' ⟨rfl, rfl⟩)
  refine gen_world (fun W => Blk W b 74 (c.rcells vw (.slice ao c.flies.length cap)) ∧ Own W 86 2 (.slice ao c.flies.length cap) c.flies.length c.rflies of ∧ Blk W w.heap.size 60 #[.int .i64 ns, .int .i64 nr, .string body] ∧ Upd [b] w W) ⟨HB0.out, HF0.out, HI0.out, HU0.out⟩ ?_
  rintro W ⟨xb, xf, xi, xu⟩
  rw [← HN.out] at xb xf
  have g5 := xb.cell 5
  have g6 := xb.cell 6
  simp [C.rcells] at g5 g6
  have i1 := xi.cell 1
  simp at i1
  have HB := Lib.hid xb
  have HF := Lib.hid xf
  have HI := Lib.hid xi
  have HU := Lib.hid xu
  have ilt := xi.lt
  clear xb xf xi xu h15 HB0 HF0 HI0 HU0
  go_cut [50] (fun s50 V => s50 = .bool tb ∧ ∃ k, V = W.drewN k)
  case first =>
    rcases t4.out with ⟨rfl, u1, u2, u3⟩ | ⟨rfl, u1, u2, u3⟩ | ⟨rfl, u1, u2⟩ | ⟨rfl, u1⟩
    all_goals first
      | (have hpos : 0 < n := by assumption
         obtain ⟨gf, off, cap2, hv, _, _, _, hcell⟩ := HF.out.form (by have := HN.out; omega)
         injection hv with hv1 _ hv3
         subst hv1 hv3
         have q0 : W.cell? ⟨gf, off, none⟩ = some (.int .i64 FI) := by
           rw [HFI.out]
           simpa using hcell 0 _ (rfl_head c.first c.flies (by rw [← HN.out]; exact u1)).1
         clear hcell hpos)
      | (obtain rfl : n = 0 := by assumption)
    all_goals
      go_quiet ((go_at_call 33; first | with_reducible exact Calls.quiet_of_same (same_sym (rbef nr FI NR F1 _)) | with_reducible exact Calls.quiet_of_same (same_sym (rbef c.sent nr SE NR _))))
      go_wp2_with fail
      go_meet
      case rel => exact ⟨by simp [*], _, rfl⟩
  case rest =>
  obtain ⟨rfl, kk, rfl⟩ := hcut
  go_upto_if 50 with (fail)
  go_cut [] (fun V => RAck w b vw of (c.acked nr) #[.int .i64 ns, .int .i64 nr, .string body] V)
  case first =>
    rcases t4.out with ⟨rfl, u1, u2, u3⟩ | u
    case inr =>
      have HA : Hid (c.acked nr = c) := C.acked_else (by rw [← HN.out]; rw [← HFI.out]; rintro ⟨v1, v2, v3⟩; rcases u with ⟨_, _, _, h⟩ | ⟨_, _, h⟩ | ⟨_, h⟩ <;> first | omega | (rw [v2] at h; cases h; done) | (rw [v3] at h; cases h; done))
      obtain rfl : tb = false := by rcases u with ⟨h, _⟩ | ⟨h, _⟩ | ⟨h, _⟩ <;> exact h
      clear u
      go_wp2_with fail
      go_meet
      case rel =>
        rw [HA.out]
        exact ⟨.slice ao n cap, HB.out.drewN _, (by rw [← HN.out]; exact HF.out.drewN _), HI.out.drewN _, HU.out.drewN _⟩
    have HG : Hid (C.ackLoop nr c.flies.length c = c.acked nr) := by show _ = _; unfold C.acked; rw [← HFI.out, if_neg (by simp [u2, u3])]
    go_wp2_with fail
    go_loopg [5] c.flies.length (fun x s5 wr => ∃ sm : Bool, s5 = .bool sm ∧ RAcking w b c nr vw of #[.int .i64 ns, .int .i64 nr, .string body] x sm wr)
    case atStart => exact ⟨false, rfl, c, .slice ao n cap, HK.out, HG.out, Nat.le_refl _, fun _ => rfl, fun h => by (cases h), (by rw [C.asof_self]; exact HB.out.drewN _), (by rw [← HN.out]; exact HF.out.drewN _), HI.out.drewN _, HU.out.drewN _⟩
    case round =>
      clear HB HF HI HU i1 g5 g6 u1 u2 u3 hcap hmx hl2 HG
      obtain ⟨sm, rfl, d, vf1, hk1, ha1, hx1, hs1, hs2, hb1, ho1, hi1, hu1⟩ := hrel
      obtain ⟨ao1, cap1, rfl, hcap1, hmx1⟩ := ho1.shape
      obtain ⟨n1, hn1⟩ : ∃ n, n = d.flies.length := ⟨_, rfl⟩
      have hl1 := hk1.l2
      rw [← hn1] at hb1 hcap1 hl1 hx1
      have g5 := hb1.cell 5
      have g11 := hb1.cell 11
      have g12 := hb1.cell 12
      have g14 := hb1.cell 14
      simp [C.rcells] at g5 g11 g12 g14
      have gfz := hb1.frozen
      have i1 := hi1.cell 1
      simp at i1
      have F2 := d.first_bd
      obtain ⟨FJ, hFJ⟩ : ∃ x, x = d.first := ⟨_, rfl⟩
      rw [← hFJ] at F2
      have HFJ := Lib.hid hFJ
      have HN1 := Lib.hid hn1
      have HB1 := Lib.hid hb1
      have HO1 := Lib.hid ho1
      have HI1 := Lib.hid hi1
      have HU1 := Lib.hid hu1
      have HK1 := Lib.hid hk1
      have HA := Lib.hid ha1
      have HS1 := Lib.hid hs1
      have HS2 := Lib.hid hs2
      clear hb1 ho1 hi1 hu1 hn1 hk1 ha1 hs1 hs2
      clear hFJ
      by_cases hp : 0 < n1 ∧ bef FJ nr = true
      · obtain ⟨hp, t5⟩ := hp
        obtain ⟨gf, off, cap2, hv, _, _, _, hcell⟩ := HO1.out.form (by have := HN1.out; omega)
        injection hv with hv1 _ hv3
        subst hv1 hv3
        have q0 : wr.cell? ⟨gf, off, none⟩ = some (.int .i64 FJ) := by
          rw [HFJ.out]
          simpa using hcell 0 _ (rfl_head d.first d.flies (by rw [← HN1.out]; exact hp)).1
        clear hcell
        have HC : Hid (Own wr 86 2 (.slice (if cap1 = 1 then some ⟨gf, off, none⟩ else some ⟨gf, off + 2, none⟩) (n1 - 1) (cap1 - 1)) d.pop.flies.length d.pop.rflies of) := by
          have h1 := HO1.out.cut (k := 1) (by have := HN1.out; omega)
          simp only [Nat.one_mul] at h1
          rw [C.pop_flies, List.length_tail, C.pop_rflies d (by rw [← HN1.out]; exact hp)]
          rw [← HN1.out] at h1 ⊢
          exact h1
        have HA2 : Hid (C.ackLoop nr (gk - 1) d.pop = c.acked nr) := by
          have h1 := HA.out
          have h2 := HN1.out
          rw [show gk = (gk - 1) + 1 by omega, C.ackLoop, ← HFJ.out, if_pos ⟨by omega, t5⟩] at h1
          exact h1
        have b1 := HK1.out.r1
        have b2 := HK1.out.r2
        have b3 := HK1.out.n1
        have b4 := HK1.out.n2
        have b5 := HK1.out.w2
        have b6 := HK1.out.m2
        go_wp2_with fail
        go_quiet ((go_at_call 33; first | with_reducible exact Calls.quiet_of_same (same_sym (rbef FJ nr F2 NR _))))
        go_wp2_with (go_at_call 34; fail)
        all_goals
          refine Calls.mono (rmore_any b (({ d with flies := d.flies.tail } : C).asof c) vw ?_ _ b1 b2 b3 b4 b5 b6 ?_) ?_
          rotate_left
          · apply Blk.of_eq
            · repeat (with_reducible first | exact HB1.out | apply Blk.drewN | apply Blk.drew | apply Blk.set_)
            · rfl
          · rintro e w' ⟨rfl, hb2, hu2⟩
            rw [← C.pop_asof] at hb2
            go_wp2
            have hu3 : Upd [b] wr w' := by
              refine Upd.trans ?_ hu2
              repeat (with_reducible first | apply Upd.refl | apply Upd.drewN | apply Upd.drew | (refine Upd.setCell _ ?_ (by simp)))
            have ho3 := HC.out.upd hu3 (fun k hk => by simp; rintro rfl; exact hnb hk)
            have hi3 := HI1.out.upd hu3 (by simp; omega)
            go_roundg (gk - 1)
            case rel =>
              refine ⟨true, rfl, d.pop, _, C.pop_ok HK1.out, HA2.out, ?_, (fun h => by cases h), fun _ => d.pop_time, hb2, ?_, hi3, HU1.out.trans hu3⟩
              · rw [C.pop_flies, List.length_tail]; have := HN1.out; omega
              · first
                  | exact ho3
                  | (simp only [*, ↓reduceIte] at ho3 ⊢; exact ho3)
            case measure => omega
      · have HA2 : Hid (c.acked nr = d) := by
          have h1 := HA.out
          rw [← h1]
          exact C.ackLoop_stop nr gk (by rw [← HN1.out, ← HFJ.out]; exact hp)
        by_cases hq : 0 < n1
        all_goals cases sm
        all_goals first
          | (have hpos : 0 < n1 := by assumption
             have t5 : bef FJ nr = false := by simpa [hq] using hp
             obtain ⟨gf, off, cap2, hv, _, _, _, hcell⟩ := HO1.out.form (by have := HN1.out; omega)
             injection hv with hv1 _ hv3
             subst hv1 hv3
             have q0 : wr.cell? ⟨gf, off, none⟩ = some (.int .i64 FJ) := by
               rw [HFJ.out]
               simpa using hcell 0 _ (rfl_head d.first d.flies (by rw [← HN1.out]; exact hq)).1
             clear hcell hpos)
          | (obtain rfl : n1 = 0 := by omega)
        all_goals
          go_wp2_with fail
          go_quiet ((go_at_call 33; first | with_reducible exact Calls.quiet_of_same (same_sym (rbef FJ nr F2 NR _))))
          go_wp2_with fail
          go_meet
          case rel =>
            rw [HA2.out]
            have ho4 := HO1.out
            rw [← HN1.out] at ho4
            refine RAck.of hnb hblt HN1.out ?_ ?_ ho4 HI1.out HU1.out
            · first
                | (rw [HS1.out (by first | exact rfl | exact trivial)]; have hb2 := HB1.out; rw [HS1.out (by first | exact rfl | exact trivial), C.asof_self] at hb2; exact hb2.drewN _)
                | (obtain ⟨e1, e2, e3⟩ := HS2.out (by first | exact rfl | exact trivial)
                   refine Blk.of_eq (by repeat (with_reducible first | exact HB1.out | apply Blk.drewN | apply Blk.drew | apply Blk.set_)) ?_
                   simp [C.rcells, C.asof, e1, e2, e3])
            · repeat (with_reducible first | apply Upd.refl | apply Upd.drewN | apply Upd.drew | (refine Upd.setCell _ ?_ (by simp)))
  case rest =>
  obtain ⟨vf2, xb, xf, xi, xu⟩ := hcut
  have HKA := Lib.hid (C.acked_ok HK.out nr)
  have g7 := xb.cell 7
  have g13 := xb.cell 13
  simp [C.rcells] at g7 g13
  have i0 := xi.cell 0
  have i2 := xi.cell 2
  simp at i0 i2
  have gfz := xb.frozen
  have HB := Lib.hid xb
  have HF := Lib.hid xf
  have HU := Lib.hid xu
  have a1 := HKA.out.c1
  have a2 := HKA.out.c2
  clear xb xf xi xu
  by_cases h0 : body.size = 0
  · have h0' : body.toList.isEmpty = true := str_empty_t h0
    have HC := Lib.hid (show c.take ns nr body = (c.acked nr, []) by unfold C.take; rw [if_neg HC0.out, if_pos h0])
    clear h0
    go_wp2_with fail
    go_ret
    rw [HC.out]
    exact ⟨_, _, [], rfl, HB.out, HF.out, Own.nil _ _ _, by simp, HU.out⟩
  have h0' : body.toList.isEmpty = false := str_empty_f (by omega)
  by_cases t5 : ns = (c.acked nr).came
  · have HC := Lib.hid (show c.take ns nr body = ({ c.acked nr with owed := true, came := ((c.acked nr).came + 1) % 65536 }, [body]) by unfold C.take; rw [if_neg HC0.out, if_neg h0, if_neg (by simpa using t5)])
    have t6 : (ns != (c.acked nr).came) = false := by simpa using t5
    go_wp2_with fail
    go_quiet (fail)
    go_wp2_with (go_at_call 35; refine (rmod _ _).mono ?_; rintro e w' ⟨rfl, rfl⟩)
    go_ret
    rw [HC.out]
    refine ⟨vf2, .slice (some ⟨wc.heap.size, 0, none⟩) 1 1, [wc.heap.size], rfl, ?_, ?_, ?_, ?_, ?_⟩
    · refine Blk.alloc _ ?_
      apply Blk.of_eq
      · repeat (with_reducible first | exact HB.out | apply Blk.drewN | apply Blk.drew | apply Blk.set_)
      · simp [C.rcells]
    · exact (((HF.out.setCell _ hnb).drewN _).setCell _ hnb).alloc _
    · exact Own.one_at (by simp)
    · intro k hk
      have := HU.out.size
      simp at hk
      omega
    · exact (((HU.out.setCell _ (by simp)).drewN _).setCell _ (by simp)).alloc _
  · have HC := Lib.hid (show c.take ns nr body = ({ c.acked nr with owed := true }, []) by unfold C.take; rw [if_neg HC0.out, if_neg h0, if_pos t5])
    have t6 : (ns != (c.acked nr).came) = true := by simpa using t5
    go_wp2_with fail
    go_quiet (fail)
    go_wp2_with fail
    go_ret
    rw [HC.out]
    refine ⟨vf2, _, [], rfl, ?_, ?_, Own.nil _ _ _, by simp, ?_⟩
    · apply Blk.of_eq
      · repeat (with_reducible first | exact HB.out | apply Blk.drewN | apply Blk.drew | apply Blk.set_)
      · rfl
    · exact (HF.out.setCell _ hnb).drewN _
    · exact (HU.out.setCell _ (by simp)).drewN _
end Go.Proofs.YtdccmlpikjbcaaaGreat
