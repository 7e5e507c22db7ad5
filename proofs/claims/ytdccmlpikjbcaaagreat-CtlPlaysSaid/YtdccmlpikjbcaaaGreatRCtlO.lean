/- WRITTEN by wip/gen/rctlo.py. The walk of Out of the document's channel. -/
import Derived.Test.YtdccmlpikjbcaaaGreatRCtlA
import Derived.Test.YtdccmlpikjbcaaaGreatCtlQ
import Derived.Test.YtdccmlpikjbcaaaGreatBkP
import Derived.Test.YtdccmlpikjbcaaaGreatRely
import Derived.Test.YtdccmlpikjbcaaaGreatFacts
import Derived.Test.YtdccmlpikjbcaaaGreatRes3
import Derived.Test.YtdccmlpikjbcaaaGreatCuts
import Derived.Deep.DeepCutAuto
import Derived.Deep.LoopGhost
namespace Go.Proofs.YtdccmlpikjbcaaaGreat
open Go.RowKit
set_option linter.unusedSimpArgs false
set_option linter.unusedVariables false
set_option maxRecDepth 100000

theorem rinfo_item : (Tryz.prog.info? 60).map (fun i => (i.zero, i.size, i.bytes)) = some (some (.agg #[.int .i64 0, .int .i64 0, .string ⟨#[]⟩]), 3, 32) := by kernel_rfl
theorem rinfo_fly : (Tryz.prog.info? 86).map (fun i => (i.zero, i.size, i.bytes)) = some (some (.agg #[.int .i64 0, .string ⟨#[]⟩]), 2, 24) := by kernel_rfl
theorem strs_hd {l : List ByteArray} (h : 0 < l.length) : (strs l)[0]? = some (.string (hd l)) := by
  cases l with
  | nil => simp at h
  | cons b l => rfl
/-- Slices of two types lie apart. -/
theorem Own.apart {w : World} {e1 e2 : TypeId} {s1 s2 n1 n2 : Nat} {v1 v2 : Value} {x1 x2 : List Value} {o1 o2 : List Nat} (h1 : Own w e1 s1 v1 n1 x1 o1) (h2 : Own w e2 s2 v2 n2 x2 o2) (he : e1 ≠ e2) : ∀ k ∈ o1, k ∉ o2 := by
  intro k k1 k2
  obtain ⟨c1, b1⟩ := h1.typ k k1
  obtain ⟨c2, b2⟩ := h2.typ k k2
  unfold Blk at b1 b2
  rw [b1] at b2
  injection b2 with b2
  injection b2 with _ b2
  exact he b2
/-- The channel and what is told so far. -/
structure ROx (w0 : World) (b : Nat) (ow0 of0 : List Nat) (c : C) (l : List Item) (vw vf vo : Value) (ow of oo : List Nat) (w : World) : Prop where
  h3 : Blk w b 74 (c.rcells vw vf)
  h4 : Own w 9 1 vw c.waits.length (strs c.waits) ow
  h5 : Own w 86 2 vf c.flies.length c.rflies of
  h6 : Own w 60 3 vo l.length (items l) oo
  n1 : ∀ k ∈ ow, k ∈ ow0
  n2 : ∀ k ∈ of, k ∈ of0 ∨ w0.heap.size ≤ k
  n3 : ∀ k ∈ oo, w0.heap.size ≤ k
  u : Upd [b] w0 w
section
variable {w0 w w' : World} {b : Nat} {ow0 of0 : List Nat} {c : C} {l : List Item} {vw vf vo : Value} {ow of oo : List Nat}
theorem ROx.keep (h : ROx w0 b ow0 of0 c l vw vf vo ow of oo w) (hu : Upd [] w w') : ROx w0 b ow0 of0 c l vw vf vo ow of oo w' :=
  ⟨h.h3.upd hu (by simp), h.h4.upd hu (by simp), h.h5.upd hu (by simp), h.h6.upd hu (by simp), h.n1, h.n2, h.n3, h.u.trans' hu (by simp)⟩
/-- One thing more is told. -/
theorem ROx.said {W w2 : World} {g off cap n : Nat} {oo2 : List Nat} {i : Item} (h : ROx w0 b ow0 of0 c l vw vf vo ow of oo w) (hn : n = l.length) (hW : Upd [] w W)
    (ho : Own w2 60 3 (.slice (some ⟨g, off, none⟩) (n + 1) cap) (n + 1) (items l ++ i.cells) oo2) (hin : ∀ k, k ∈ oo2 → k ∈ oo ∨ W.heap.size ≤ k) (hu : Upd oo W w2) :
    ROx w0 b ow0 of0 c (l ++ [i]) vw vf (.slice (some ⟨g, off, none⟩) (n + 1) cap) ow of oo2 w2 := by
  subst hn
  have hk := h.keep hW
  refine ⟨hk.h3.upd hu (hk.h6.ne_blk hk.h3 (by decide)), hk.h4.upd hu (hk.h4.apart hk.h6 (by decide)), hk.h5.upd hu (hk.h5.apart hk.h6 (by decide)), ?_, h.n1, h.n2, ?_, hk.u.trans' hu (fun x hx => .inr (h.n3 x hx))⟩
  · rw [items_snoc, List.length_append]; exact ho
  · intro k hx
    rcases hin k hx with h1 | h1
    · exact h.n3 k h1
    · have := hk.u.size; omega
/-- What is told is told. -/
theorem ROx.ended (h : ROx w0 b ow0 of0 c l vw vf vo ow of oo w) :
    ROx w0 b ow0 of0 { c with again := false, owed := false } l vw vf vo ow of oo ((w.setCell ⟨b, 13, none⟩ (.bool false)).setCell ⟨b, 14, none⟩ (.bool false)) := by
  have n1 := h.h4.ne_blk h.h3 (by decide)
  have n2 := h.h5.ne_blk h.h3 (by decide)
  have n3 := h.h6.ne_blk h.h3 (by decide)
  exact ⟨((h.h3.set_ 13 _).set_ 14 _).of_eq rfl, (h.h4.setCell _ n1).setCell _ n1, (h.h5.setCell _ n2).setCell _ n2, (h.h6.setCell _ n3).setCell _ n3, h.n1, h.n2, h.n3, (h.u.setCell _ (by simp)).setCell _ (by simp)⟩
/-- A message flies. -/
theorem ROx.flew {vw' vf' : Value} {own : List Nat} (h : ROx w0 b ow0 of0 c l vw vf vo ow of oo w) (hw : Own w 9 1 vw' c.fly.waits.length (strs c.fly.waits) ow) (hf : Own w 86 2 vf' c.fly.flies.length c.fly.rflies own)
    (hn : ∀ k ∈ own, w0.heap.size ≤ k) :
    ROx w0 b ow0 of0 c.fly l vw' vf' vo ow own oo ((((w.setCell ⟨b, 5, none⟩ vf').setCell ⟨b, 4, none⟩ vw').setCell ⟨b, 6, none⟩ (.int .i64 ((c.sent + 1) % 65536))).setCell ⟨b, 11, none⟩ (.int .i64 0)) := by
  have n1 := hw.ne_blk h.h3 (by decide)
  have n2 := hf.ne_blk h.h3 (by decide)
  have n3 := h.h6.ne_blk h.h3 (by decide)
  exact ⟨((((h.h3.set_ 5 _).set_ 4 _).set_ 6 _).set_ 11 _).of_eq rfl, (((hw.setCell _ n1).setCell _ n1).setCell _ n1).setCell _ n1, (((hf.setCell _ n2).setCell _ n2).setCell _ n2).setCell _ n2,
    (((h.h6.setCell _ n3).setCell _ n3).setCell _ n3).setCell _ n3, h.n1, fun k hk => .inr (hn k hk), h.n3, (((h.u.setCell _ (by simp)).setCell _ (by simp)).setCell _ (by simp)).setCell _ (by simp)⟩
/-- A field of the channel is set. -/
theorem ROx.store {i : Nat} {v vw' vf' : Value} {ow' of' : List Nat} {c' : C} (h : ROx w0 b ow0 of0 c l vw vf vo ow of oo w) (hc : (c.rcells vw vf).setIfInBounds i v = c'.rcells vw' vf')
    (h4 : Own w 9 1 vw' c'.waits.length (strs c'.waits) ow') (h5 : Own w 86 2 vf' c'.flies.length c'.rflies of') (n1 : ∀ k ∈ ow', k ∈ ow0) (n2 : ∀ k ∈ of', k ∈ of0 ∨ w0.heap.size ≤ k) :
    ROx w0 b ow0 of0 c' l vw' vf' vo ow' of' oo (w.setCell ⟨b, i, none⟩ v) :=
  ⟨(h.h3.set_ i v).of_eq hc, h4.setCell v (h4.ne_blk h.h3 (by decide)), h5.setCell v (h5.ne_blk h.h3 (by decide)), h.h6.setCell v (h.h6.ne_blk h.h3 (by decide)), n1, n2, h.n3, h.u.setCell v (by simp)⟩
end
def ROst (w0 : World) (b : Nat) (ow0 of0 : List Nat) (c : C) (l : List Item) (vo : Value) (V : World) : Prop := ∃ vw vf ow of oo, ROx w0 b ow0 of0 c l vw vf vo ow of oo V
/-- What flies, and one more: the stages of region 8. -/
def roS (w0 : World) (v : Value) (n : Nat) (xs : List Value) (W : World) : Prop := Upd [] w0 W ∧ ∃ ao cap own, v = .slice ao n cap ∧ Own W 86 2 (.slice ao n cap) n xs own ∧ ∀ k, k ∈ own → w0.heap.size ≤ k
def roA (w0 : World) (b n : Nat) (xs item : List Value) : List Value → World → Prop
  | [], W => Upd [] w0 W
  | [v], W => roS w0 v n xs W
  | [_, v], W => roS w0 v (n + 1) (xs ++ item) W
  | [_, v, _], W => ∃ W1, roS w0 v (n + 1) (xs ++ item) W1 ∧ W = W1.setCell ⟨b, 5, none⟩ v
  | _, _ => False
def roB (w0 : World) (cs : Array Value) : List Value → World → Prop
  | [], W => True
  | [v], W => ∃ g, w0.heap.size ≤ g ∧ v = .slice (some ⟨g, 0, none⟩) 1 1 ∧ Blk W g 86 cs
  | _, _ => True
def roC : List Value → World → Prop := fun _ _ => True
theorem roS.upd {w0 W W' : World} {v : Value} {n : Nat} {xs : List Value} (h : roS w0 v n xs W) (hu : Upd [] W W') : roS w0 v n xs W' := by
  obtain ⟨h1, ao, cap, own, h2, h3, h4⟩ := h
  exact ⟨h1.trans hu, ao, cap, own, h2, h3.upd hu (by simp), h4⟩
theorem roA.upd {w0 W W' : World} {b n : Nat} {xs item : List Value} {vs : List Value} (h : roA w0 b n xs item vs W) (hl : vs.length ≤ 2) (hu : Upd [] W W') : roA w0 b n xs item vs W' := by
  match vs, hl with
  | [], _ => exact Upd.trans h hu
  | [_], _ => exact roS.upd h hu
  | [_, _], _ => exact roS.upd h hu
theorem roA.frame {w0 W : World} {b n : Nat} {xs item : List Value} {vs : List Value} (h : roA w0 b n xs item vs W) (hl : vs.length ≤ 2) : Upd [] w0 W := by
  match vs, hl with
  | [], _ => exact h
  | [_], _ => exact h.1
  | [_, _], _ => exact h.1
theorem roB.upd {w0 W W' : World} {cs : Array Value} {vs : List Value} (h : roB w0 cs vs W) (hu : Upd [] W W') : roB w0 cs vs W' := by
  match vs with
  | [] => trivial
  | [_] => obtain ⟨g, h1, h2, h3⟩ := h; exact ⟨g, h1, h2, h3.upd hu (by simp)⟩
  | _ :: _ :: _ => trivial
structure ROutEnd (w : World) (b : Nat) (ow of : List Nat) (p : C × List Item) (e : Ending) (w' : World) : Prop where
  ex : ∃ vw' vf' v ow' of' ol, e = .returned v ∧ Blk w' b 74 (p.1.rcells vw' vf') ∧ Own w' 9 1 vw' p.1.waits.length (strs p.1.waits) ow' ∧ Own w' 86 2 vf' p.1.flies.length p.1.rflies of' ∧
    Own w' 60 3 v p.2.length (items p.2) ol ∧ (∀ k, k ∈ ow' → k ∈ ow) ∧ (∀ k, k ∈ of' → k ∈ of ∨ w.heap.size ≤ k) ∧ (∀ k, k ∈ ol → w.heap.size ≤ k) ∧ Upd [b] w w'

theorem ROx.fin {w w' : World} {b : Nat} {ow of : List Nat} {p : C × List Item} {vw vf vo : Value} {ow1 of1 oo1 : List Nat} (h : ROx w b ow of p.1 p.2 vw vf vo ow1 of1 oo1 w') : ROutEnd w b ow of p (.returned vo) w' :=
  ⟨_, _, _, ow1, of1, oo1, rfl, h.h3, h.h4, h.h5, h.h6, h.n1, h.n2, h.n3, h.u⟩
set_option maxHeartbeats 4000000 in
theorem rout_any (b : Nat) (c : C) (vw vf : Value) (ow of : List Nat) (w : World) (hk : c.ok) (hb : Blk w b 74 (c.rcells vw vf))
    (how : Own w 9 1 vw c.waits.length (strs c.waits) ow) (hof : Own w 86 2 vf c.flies.length c.rflies of) :
    Calls Tryz.prog 19 #[.pointer (some ⟨b, 0, none⟩)] w (ROutEnd w b ow of c.out) := by
  have hblt := hb.lt
  by_cases t1 : c.dead = true
  · have HC := Lib.hid (show c.out = (c, []) by unfold C.out; rw [if_pos t1])
    have h15 := hb.cell 15
    simp [C.rcells] at h15
    go_enter Tryz.func19, Tryz.ntmps19
    go_wp2_with fail
    go_ret
    rw [HC.out]
    exact ⟨_, _, _, ow, of, [], rfl, hb, how, hof, Own.nil _ _ _, fun k hk => hk, fun k hk => .inl hk, by simp, Upd.refl _ _⟩
  have t1' : c.dead = false := by simpa using t1
  have HC := Lib.hid (show c.out = C.outEnd (C.outLoop c.waits.length (c, c.outAgain)) by unfold C.out; rw [if_neg t1])
  have HX : Hid (ROx w b ow of c [] vw vf (.slice none 0 0) ow of [] w) := ⟨hb, how, hof, Own.nil _ _ _, fun k hk => hk, fun k hk => .inl hk, by simp, Upd.refl _ _⟩
  obtain ⟨af, capf, rfl, hcapf, hmxf⟩ := hof.shape
  obtain ⟨nf, hnf⟩ : ∃ n, n = c.flies.length := ⟨_, rfl⟩
  rw [← hnf] at hb hcapf
  have g5 := hb.cell 5
  have g7 := hb.cell 7
  have g14 := hb.cell 14
  have g15 := hb.cell 15
  simp [C.rcells] at g5 g7 g14 g15
  have HNF := Lib.hid hnf
  have HK := Lib.hid hk
  have l2 := hk.l2
  rw [← hnf] at l2
  obtain ⟨i0, hi0, hz0, hz1, hz2⟩ := info_parts rinfo_item
  obtain ⟨FI, hFI⟩ : ∃ x, x = c.first := ⟨_, rfl⟩
  have HFI := Lib.hid hFI
  obtain ⟨tb, t2⟩ : ∃ tb : Bool, Hid ((tb = true ∧ c.again = true ∧ 0 < nf) ∨ (tb = false ∧ c.again = true ∧ nf = 0) ∨ (tb = false ∧ c.again = false)) := by
    rcases Bool.eq_false_or_eq_true c.again with h | h
    · by_cases h2 : 0 < nf
      · exact ⟨true, .inl ⟨rfl, h, h2⟩⟩
      · exact ⟨false, .inr (.inl ⟨rfl, h, by omega⟩)⟩
    · exact ⟨false, .inr (.inr ⟨rfl, h⟩)⟩
  clear hb how hof hk hnf hFI t1
  go_enter Tryz.func19, Tryz.ntmps19
  go_upto_region 4 with (fail)
  go_cut [19, 3] (fun s19 s3 V => s19 = .bool tb ∧ s3 = .slice none 0 0 ∧ w = V)
  case first =>
    rcases t2.out with ⟨rfl, t2a, t2b⟩ | ⟨rfl, t2a, rfl⟩ | ⟨rfl, t2a⟩
    all_goals
      go_wp2_with fail
      go_meet
      case rel => simp [*]
  case rest =>
  obtain ⟨rfl, rfl, rfl⟩ := hcut
  go_upto_if 19 with (fail)
  go_cut [3] (fun s3 V => ROst w b ow of c c.outAgain s3 V)
  case first =>
    rcases t2.out with ⟨rfl, t2a, t2b⟩ | ⟨rfl, t2a, rfl⟩ | ⟨rfl, t2a⟩
    · obtain ⟨gf, off, cap2, hv, hof1, _, _, hcell⟩ := HX.out.h5.form (by have := HNF.out; omega)
      injection hv with hv1 _ hv3
      subst hv1 hv3
      have q0 : w.cell? ⟨gf, off, none⟩ = some (.int .i64 FI) := by
        rw [HFI.out]
        simpa using hcell 0 _ (rfl_head c.first c.flies (by rw [← HNF.out]; exact t2b)).1
      have q1 : w.cell? ⟨gf, off + 1, none⟩ = some (.string (hd c.flies)) := by
        simpa using hcell 1 _ (rfl_head c.first c.flies (by rw [← HNF.out]; exact t2b)).2
      clear hcell hof1
      go_wp2_with fail
      have hcells : ∀ W, Upd [] w W → W.cell? ⟨b, 5, none⟩ = some (.slice (some ⟨gf, off, none⟩) nf capf) ∧ W.cell? ⟨b, 7, none⟩ = some (.int .i64 c.came) ∧ W.cell? ⟨gf, off, none⟩ = some (.int .i64 FI) ∧ W.cell? ⟨gf, off + 1, none⟩ = some (.string (hd c.flies)) :=
        fun W hu => ⟨(hu.cell (cell_lt' g5) (by simp)).trans g5, (hu.cell (cell_lt' g7) (by simp)).trans g7, (hu.cell (cell_lt' q0) (by simp)).trans q0, (hu.cell (cell_lt' q1) (by simp)).trans q1⟩
      refine wp_region_facts (.grow 21 22 60 3 w.heap.size (.slice none 0 0) 0 ([]) [] 1 ([.int .i64 FI, .int .i64 c.came, .string (hd c.flies)])) ((Own.nil _ _ _)) [.is (.slice none 0 0), .is ((.pointer (some ⟨b, 0, none⟩))), .is ((.pointer (some ⟨b, 0, none⟩))), .is ((.pointer (some ⟨b, 5, none⟩))), .is (.slice (some ⟨gf, off, none⟩) nf capf), .is (.pointer (some ⟨gf, off, none⟩)), .is (.pointer (some ⟨gf, off, none⟩)), .is (.int .i64 FI), .is ((.pointer (some ⟨b, 0, none⟩))), .is ((.pointer (some ⟨b, 0, none⟩))), .is ((.pointer (some ⟨b, 7, none⟩))), .is (.int .i64 c.came), .is ((.pointer (some ⟨b, 0, none⟩))), .is ((.pointer (some ⟨b, 0, none⟩))), .is ((.pointer (some ⟨b, 5, none⟩))), .is (.slice (some ⟨gf, off, none⟩) nf capf), .is (.pointer (some ⟨gf, off, none⟩)), .is (.pointer (some ⟨gf, off + 1, none⟩)), .is (.string (hd c.flies)), .is (.agg #[.int .i64 FI, .int .i64 c.came, .string (hd c.flies)]), .made (w.heap.size) (by exact (fun _ h => by cases h)) 1 60 #[.int .i64 FI, .int .i64 c.came, .string (hd c.flies)], .any, .any] (by kernel_rfl) (by kernel_rfl) (by kernel_rfl) (by kernel_rfl) ?_ ?_
      · refine Steps.cons ?_ (Steps.cons ?_ (Steps.cons ?_ (Steps.cons ?_ (Steps.cons ?_ (Steps.cons ?_ (Steps.cons ?_ (Steps.cons ?_ (Steps.cons ?_ (Steps.cons ?_ (Steps.cons ?_ (Steps.cons ?_ (Steps.cons ?_ (Steps.cons ?_ (Steps.cons ?_ (Steps.cons ?_ (Steps.cons ?_ (Steps.cons ?_ (Steps.cons ?_ (Steps.cons ?_ (Steps.cons ?_ (Steps.cons ?_ (Steps.cons ?_ Steps.nil))))))))))))))))))))))
        · refine step_is _ rfl ⟨_, rfl⟩ rfl (fun _ _ => trivial) ?_
          intro a W hi hF hD
          have hu := hi.upd
          have e3 : a.tmps[3]?.getD undef = _ := (ev a 3).symm.trans (hF 3 (by kernel_rfl))
          clear hF hD
          have hc := hcells W hu
          go_simp
        · refine step_is _ rfl ⟨_, rfl⟩ rfl (fun _ _ => trivial) ?_
          intro a W hi hF hD
          have hu := hi.upd
          have e0 : a.tmps[0]?.getD undef = _ := (ev a 0).symm.trans (hF 0 (by kernel_rfl))
          clear hF hD
          have hc := hcells W hu
          go_simp
        · refine step_is _ rfl ⟨_, rfl⟩ rfl (fun _ _ => trivial) ?_
          intro a W hi hF hD
          have hu := hi.upd
          have e21 : a.tmps[21]?.getD undef = (.pointer (some ⟨b, 0, none⟩)) := (ev a 21).symm.trans (hD _ (Array.mem_of_getElem? (i := 0) rfl) rfl).1
          clear hF hD
          have hc := hcells W hu
          go_simp
        · refine step_is _ rfl ⟨_, rfl⟩ rfl (fun _ _ => trivial) ?_
          intro a W hi hF hD
          have hu := hi.upd
          have e22 : a.tmps[22]?.getD undef = (.pointer (some ⟨b, 0, none⟩)) := (ev a 22).symm.trans (hD _ (Array.mem_of_getElem? (i := 0) rfl) rfl).1
          clear hF hD
          have hc := hcells W hu
          go_simp
        · refine step_is _ rfl ⟨_, rfl⟩ rfl (fun _ _ => trivial) ?_
          intro a W hi hF hD
          have hu := hi.upd
          have e23 : a.tmps[23]?.getD undef = (.pointer (some ⟨b, 5, none⟩)) := (ev a 23).symm.trans (hD _ (Array.mem_of_getElem? (i := 0) rfl) rfl).1
          clear hF hD
          have hc := hcells W hu
          go_simp
        · refine step_is _ rfl ⟨_, rfl⟩ rfl (fun _ _ => trivial) ?_
          intro a W hi hF hD
          have hu := hi.upd
          have e24 : a.tmps[24]?.getD undef = .slice (some ⟨gf, off, none⟩) nf capf := (ev a 24).symm.trans (hD _ (Array.mem_of_getElem? (i := 0) rfl) rfl).1
          clear hF hD
          have hc := hcells W hu
          go_simp
        · refine step_is _ rfl ⟨_, rfl⟩ rfl (fun _ _ => trivial) ?_
          intro a W hi hF hD
          have hu := hi.upd
          have e25 : a.tmps[25]?.getD undef = .pointer (some ⟨gf, off, none⟩) := (ev a 25).symm.trans (hD _ (Array.mem_of_getElem? (i := 0) rfl) rfl).1
          clear hF hD
          have hc := hcells W hu
          go_simp
        · refine step_is _ rfl ⟨_, rfl⟩ rfl (fun _ _ => trivial) ?_
          intro a W hi hF hD
          have hu := hi.upd
          have e26 : a.tmps[26]?.getD undef = .pointer (some ⟨gf, off, none⟩) := (ev a 26).symm.trans (hD _ (Array.mem_of_getElem? (i := 0) rfl) rfl).1
          clear hF hD
          have hc := hcells W hu
          go_simp
        · refine step_is _ rfl ⟨_, rfl⟩ rfl (fun _ _ => trivial) ?_
          intro a W hi hF hD
          have hu := hi.upd
          have e0 : a.tmps[0]?.getD undef = _ := (ev a 0).symm.trans (hF 0 (by kernel_rfl))
          clear hF hD
          have hc := hcells W hu
          go_simp
        · refine step_is _ rfl ⟨_, rfl⟩ rfl (fun _ _ => trivial) ?_
          intro a W hi hF hD
          have hu := hi.upd
          have e28 : a.tmps[28]?.getD undef = (.pointer (some ⟨b, 0, none⟩)) := (ev a 28).symm.trans (hD _ (Array.mem_of_getElem? (i := 0) rfl) rfl).1
          clear hF hD
          have hc := hcells W hu
          go_simp
        · refine step_is _ rfl ⟨_, rfl⟩ rfl (fun _ _ => trivial) ?_
          intro a W hi hF hD
          have hu := hi.upd
          have e29 : a.tmps[29]?.getD undef = (.pointer (some ⟨b, 0, none⟩)) := (ev a 29).symm.trans (hD _ (Array.mem_of_getElem? (i := 0) rfl) rfl).1
          clear hF hD
          have hc := hcells W hu
          go_simp
        · refine step_is _ rfl ⟨_, rfl⟩ rfl (fun _ _ => trivial) ?_
          intro a W hi hF hD
          have hu := hi.upd
          have e30 : a.tmps[30]?.getD undef = (.pointer (some ⟨b, 7, none⟩)) := (ev a 30).symm.trans (hD _ (Array.mem_of_getElem? (i := 0) rfl) rfl).1
          clear hF hD
          have hc := hcells W hu
          go_simp
        · refine step_is _ rfl ⟨_, rfl⟩ rfl (fun _ _ => trivial) ?_
          intro a W hi hF hD
          have hu := hi.upd
          have e0 : a.tmps[0]?.getD undef = _ := (ev a 0).symm.trans (hF 0 (by kernel_rfl))
          clear hF hD
          have hc := hcells W hu
          go_simp
        · refine step_is _ rfl ⟨_, rfl⟩ rfl (fun _ _ => trivial) ?_
          intro a W hi hF hD
          have hu := hi.upd
          have e32 : a.tmps[32]?.getD undef = (.pointer (some ⟨b, 0, none⟩)) := (ev a 32).symm.trans (hD _ (Array.mem_of_getElem? (i := 0) rfl) rfl).1
          clear hF hD
          have hc := hcells W hu
          go_simp
        · refine step_is _ rfl ⟨_, rfl⟩ rfl (fun _ _ => trivial) ?_
          intro a W hi hF hD
          have hu := hi.upd
          have e33 : a.tmps[33]?.getD undef = (.pointer (some ⟨b, 0, none⟩)) := (ev a 33).symm.trans (hD _ (Array.mem_of_getElem? (i := 0) rfl) rfl).1
          clear hF hD
          have hc := hcells W hu
          go_simp
        · refine step_is _ rfl ⟨_, rfl⟩ rfl (fun _ _ => trivial) ?_
          intro a W hi hF hD
          have hu := hi.upd
          have e34 : a.tmps[34]?.getD undef = (.pointer (some ⟨b, 5, none⟩)) := (ev a 34).symm.trans (hD _ (Array.mem_of_getElem? (i := 0) rfl) rfl).1
          clear hF hD
          have hc := hcells W hu
          go_simp
        · refine step_is _ rfl ⟨_, rfl⟩ rfl (fun _ _ => trivial) ?_
          intro a W hi hF hD
          have hu := hi.upd
          have e35 : a.tmps[35]?.getD undef = .slice (some ⟨gf, off, none⟩) nf capf := (ev a 35).symm.trans (hD _ (Array.mem_of_getElem? (i := 0) rfl) rfl).1
          clear hF hD
          have hc := hcells W hu
          go_simp
        · refine step_is _ rfl ⟨_, rfl⟩ rfl (fun _ _ => trivial) ?_
          intro a W hi hF hD
          have hu := hi.upd
          have e36 : a.tmps[36]?.getD undef = .pointer (some ⟨gf, off, none⟩) := (ev a 36).symm.trans (hD _ (Array.mem_of_getElem? (i := 0) rfl) rfl).1
          clear hF hD
          have hc := hcells W hu
          go_simp
        · refine step_is _ rfl ⟨_, rfl⟩ rfl (fun _ _ => trivial) ?_
          intro a W hi hF hD
          have hu := hi.upd
          have e37 : a.tmps[37]?.getD undef = .pointer (some ⟨gf, off + 1, none⟩) := (ev a 37).symm.trans (hD _ (Array.mem_of_getElem? (i := 0) rfl) rfl).1
          clear hF hD
          have hc := hcells W hu
          go_simp
        · refine step_is _ rfl ⟨_, rfl⟩ rfl (fun _ _ => trivial) ?_
          intro a W hi hF hD
          have hu := hi.upd
          have e27 : a.tmps[27]?.getD undef = .int .i64 FI := (ev a 27).symm.trans (hD _ (Array.mem_of_getElem? (i := 0) rfl) rfl).1
          have e31 : a.tmps[31]?.getD undef = .int .i64 c.came := (ev a 31).symm.trans (hD _ (Array.mem_of_getElem? (i := 1) rfl) rfl).1
          have e38 : a.tmps[38]?.getD undef = .string (hd c.flies) := (ev a 38).symm.trans (hD _ (Array.mem_of_getElem? (i := 2) rfl) rfl).1
          clear hF hD
          have hc := hcells W hu
          go_simp
        · refine step_run rfl (fun _ _ => trivial) ?_
          intro a W hi hF hD
          have hu := hi.upd
          have e39 : a.tmps[39]?.getD undef = .agg #[.int .i64 FI, .int .i64 c.came, .string (hd c.flies)] := (ev a 39).symm.trans (hD _ (Array.mem_of_getElem? (i := 0) rfl) rfl).1
          clear hF hD
          have hc := hcells W hu
          exact ⟨_, _, by (go_simp; first | done | rfl | exact ⟨rfl, rfl⟩), (Upd.refl _ _).alloc _, _, hu.size, rfl, Blk.new _ _ _⟩
        · refine step_gen rfl ⟨_, rfl⟩ ?_
          intro a W hi hF hD
          have hu := hi.upd
          have e20 : a.tmps[20]?.getD undef = .slice none 0 0 := (ev a 20).symm.trans (hD _ (Array.mem_of_getElem? (i := 0) rfl) rfl).1
          obtain ⟨g40, _, e40, b40⟩ : ∃ g, w.heap.size ≤ g ∧ a.eval (.tmp 40) = .slice (some ⟨g, 0, none⟩) 1 1 ∧ Blk W g 60 #[.int .i64 FI, .int .i64 c.came, .string (hd c.flies)] := (hD _ (Array.mem_of_getElem? (i := 1) rfl) rfl).1
          rw [ev] at e40
          clear hF hD
          have hc := hcells W hu
          obtain ⟨g, off2, cap2, w2, own2, r1, r2, r3, r4, r5⟩ := run_append_keep (P := Tryz.prog) W 67 67 60 i0 _ 3 32 Tryz.underlying67 hi0 hz0 hz1 hz2 rfl (by decide) (.slice none 0 0) 0 ([]) [] hi.hold ⟨g40, 0, none⟩ 1 1 [.int .i64 FI, .int .i64 c.came, .string (hd c.flies)] rfl (World.news_of_block b40) (by simp [Value.oneCell']) (by decide) (by simp only [maxLen]; omega) (by omega)
          exact ⟨_, w2, exec_append rfl (by rw [ev]; exact e20) (by rw [ev]; exact e40) r1, Env.grow_set hu r4 r5 ⟨g, off2, cap2, own2, rfl, r2, fun k hk => (r3 k hk).imp id (Nat.le_trans hu.size)⟩⟩
        · refine step_gen rfl ⟨_, rfl⟩ ?_
          intro a W hi hF hD
          have hu := hi.upd
          have d41 := (hD _ (Array.mem_of_getElem? (i := 0) rfl) rfl).2
          clear hF hD
          have hc := hcells W hu
          exact ⟨_, W, by (go_simp; first | done | rfl | exact ⟨rfl, rfl⟩), Env.grow_on hi (by rw [← ev]; exact d41)⟩
      intro vals W hu hv
      have v0 : vals 0 = .slice none 0 0 := (hv 0 (by decide)).1
      have v1 : vals 1 = (.pointer (some ⟨b, 0, none⟩)) := (hv 1 (by decide)).1
      have v2 : vals 2 = (.pointer (some ⟨b, 0, none⟩)) := (hv 2 (by decide)).1
      have v3 : vals 3 = (.pointer (some ⟨b, 5, none⟩)) := (hv 3 (by decide)).1
      have v4 : vals 4 = .slice (some ⟨gf, off, none⟩) nf capf := (hv 4 (by decide)).1
      have v5 : vals 5 = .pointer (some ⟨gf, off, none⟩) := (hv 5 (by decide)).1
      have v6 : vals 6 = .pointer (some ⟨gf, off, none⟩) := (hv 6 (by decide)).1
      have v7 : vals 7 = .int .i64 FI := (hv 7 (by decide)).1
      have v8 : vals 8 = (.pointer (some ⟨b, 0, none⟩)) := (hv 8 (by decide)).1
      have v9 : vals 9 = (.pointer (some ⟨b, 0, none⟩)) := (hv 9 (by decide)).1
      have v10 : vals 10 = (.pointer (some ⟨b, 7, none⟩)) := (hv 10 (by decide)).1
      have v11 : vals 11 = .int .i64 c.came := (hv 11 (by decide)).1
      have v12 : vals 12 = (.pointer (some ⟨b, 0, none⟩)) := (hv 12 (by decide)).1
      have v13 : vals 13 = (.pointer (some ⟨b, 0, none⟩)) := (hv 13 (by decide)).1
      have v14 : vals 14 = (.pointer (some ⟨b, 5, none⟩)) := (hv 14 (by decide)).1
      have v15 : vals 15 = .slice (some ⟨gf, off, none⟩) nf capf := (hv 15 (by decide)).1
      have v16 : vals 16 = .pointer (some ⟨gf, off, none⟩) := (hv 16 (by decide)).1
      have v17 : vals 17 = .pointer (some ⟨gf, off + 1, none⟩) := (hv 17 (by decide)).1
      have v18 : vals 18 = .string (hd c.flies) := (hv 18 (by decide)).1
      have v19 : vals 19 = .agg #[.int .i64 FI, .int .i64 c.came, .string (hd c.flies)] := (hv 19 (by decide)).1
      obtain ⟨g20, _, v20, b20⟩ : ∃ g, w.heap.size ≤ g ∧ vals 20 = .slice (some ⟨g, 0, none⟩) 1 1 ∧ Blk W g 60 #[.int .i64 FI, .int .i64 c.came, .string (hd c.flies)] := (hv 20 (by decide)).1
      have v21 := (hv 21 (by decide)).2
      have v22 := (hv 22 (by decide)).2
      clear hv
      obtain ⟨g, off2, cap2, own2, q22, ho2, hin2⟩ := Env.grow_get 22 rfl v22
      simp only [putAll, Act.put, Nat.zero_add, Nat.reduceAdd, q22, v0, v1, v2, v3, v4, v5, v6, v7, v8, v9, v10, v11, v12, v13, v14, v15, v16, v17, v18, v19, v20, List.setIfInBounds_toArray, List.set_cons_zero, List.set_cons_succ]
      clear v0 v1 v2 v3 v4 v5 v6 v7 v8 v9 v10 v11 v12 v13 v14 v15 v16 v17 v18 v19 v20

      rw [q22] at ho2
      go_wp2_with fail
      go_meet
      case rel =>
        have h1 : c.outAgain = [] ++ [⟨FI, c.came, hd c.flies⟩] := by unfold C.outAgain; rw [if_pos ⟨t2a, by rw [← HNF.out]; exact t2b⟩, HFI.out]; rfl
        rw [h1]
        exact ⟨_, _, _, _, _, HX.out.said (l := []) (n := 0) rfl (Upd.refl _ _) ho2 hin2 hu⟩
    all_goals
      have h1 : Hid (c.outAgain = []) := by show _ = _; unfold C.outAgain; rw [if_neg (by rw [← HNF.out]; simp [t2a])]
      go_wp2_with fail
      go_meet
      case rel =>
        rw [h1.out]
        exact ⟨_, _, _, _, _, HX.out⟩
  case rest =>
  have HK2 := HK.out
  have L2 := C.outAgain_len HK2
  clear g5 g7 g14 g15 hcapf hmxf HNF HFI t2 HX
  go_wp2_with fail
  go_loopg [3] c.waits.length (fun x s3 wr => ∃ c1 l1, c1.ok ∧ C.outLoop x (c1, l1) = C.outLoop c.waits.length (c, c.outAgain) ∧ c1.waits.length ≤ x ∧ l1.length + x ≤ 41 ∧ ROst w b ow of c1 l1 s3 wr)
  case atStart => exact ⟨c, c.outAgain, HK.out, rfl, Nat.le_refl _, L2, hcut⟩
  case round =>
    obtain ⟨c1, l1, hk1, he1, hm1, hl1, vw1, vf1, ow1, of1, oo1, X⟩ := hrel
    obtain ⟨aw1, capw1, rfl, hcw1, hxw1⟩ := X.h4.shape
    obtain ⟨af1, capf1, rfl, hcf1, hxf1⟩ := X.h5.shape
    obtain ⟨ao1, capo1, rfl, hco1, hxo1⟩ := X.h6.shape
    obtain ⟨nw, hnw⟩ : ∃ n, n = c1.waits.length := ⟨_, rfl⟩
    obtain ⟨nf1, hnf1⟩ : ∃ n, n = c1.flies.length := ⟨_, rfl⟩
    obtain ⟨no1, hno1⟩ : ∃ n, n = l1.length := ⟨_, rfl⟩
    have hx3 := X.h3
    rw [← hnw, ← hnf1] at hx3
    have p0 := hx3.cell 0
    have p4 := hx3.cell 4
    have p5 := hx3.cell 5
    have p6 := hx3.cell 6
    have p7 := hx3.cell 7
    have p8 := hx3.cell 8
    have p13 := hx3.cell 13
    have p14 := hx3.cell 14
    simp [C.rcells] at p0 p4 p5 p6 p7 p8 p13 p14
    have pfz := hx3.frozen
    rw [← hnw] at hcw1 hm1
    rw [← hnf1] at hcf1
    rw [← hno1] at hco1 hl1
    have l3 := hk1.l2
    rw [← hnf1] at l3
    have HX := Lib.hid X
    have HNW := Lib.hid hnw
    have HNF1 := Lib.hid hnf1
    have HNO1 := Lib.hid hno1
    have HK1 := Lib.hid hk1
    have HE := Lib.hid he1
    rw [← hno1]
    clear X hx3 hnw hnf1 hno1 hk1 he1 hcut L2
    have H4 := Lib.hid (show Own wr 9 1 (.slice aw1 nw capw1) nw (strs c1.waits) ow1 from by have h := HX.out.h4; rw [← HNW.out] at h; exact h)
    have H6 := Lib.hid (show Own wr 60 3 (.slice ao1 no1 capo1) no1 (items l1) oo1 from by have h := HX.out.h6; rw [← HNO1.out] at h; exact h)
    by_cases t67 : 0 < nw ∧ (nf1 : Int) < c1.room ∧ (nf1 : Int) < c1.window
    · obtain ⟨u1, u2, u3⟩ := t67
      have hd : decide ((nf1 : Int) < c1.room) = true := decide_eq_true (by omega)
      have hd2 : decide ((nf1 : Int) < c1.window) = true := decide_eq_true u3
      go_wp2_with fail
      go_cut [71] (fun s V => s = .bool true ∧ ∃ k, V = wr.drewN k)
      case first =>
        go_quiet (fail)
        go_wp2_with fail
        go_meet
        case rel => exact ⟨by simp [*], _, rfl⟩
      case rest =>
      obtain ⟨rfl, kk, rfl⟩ := hcut
      obtain ⟨w7, hw7⟩ : ∃ x, x = wr.drewN kk := ⟨_, rfl⟩
      rw [← hw7]
      have hu7 : Upd [] wr w7 := by rw [hw7]; exact (Upd.refl _ _).drewN _
      have X7 := HX.out.keep hu7
      have H6' := H6.out.upd hu7 (by simp)
      have hx7 := X7.h3
      rw [← HNW.out, ← HNF1.out] at hx7
      clear p0 p4 p5 p6 p7 p8 p13 p14 pfz hd hd2 hw7
      have r4 := hx7.cell 4
      have r6 := hx7.cell 6
      have r7 := hx7.cell 7
      simp [C.rcells] at r4 r6 r7
      obtain ⟨gw, offw, capw2, hvw, hgw, _, _, hcellw⟩ := (H4.out.upd hu7 (by simp)).form u1
      injection hvw with hv1 _ hv3
      subst hv1 hv3
      have q0 : w7.cell? ⟨gw, offw, none⟩ = some (.string (hd c1.waits)) := by simpa using hcellw 0 _ (strs_hd (by rw [← HNW.out]; exact u1))
      have n6 : b ∉ oo1 := X7.h6.ne_blk X7.h3 (by decide)
      have n7 : gw ∉ oo1 := X7.h4.apart X7.h6 (by decide) gw (by rw [hgw]; simp)
      have l6 : ∀ k ∈ oo1, k < w7.heap.size := H6'.lt
      clear hcellw hx7
      go_wp2_with fail
      have hcells : ∀ W, Upd oo1 w7 W → W.cell? ⟨b, 4, none⟩ = some (.slice (some ⟨gw, offw, none⟩) nw capw1) ∧ W.cell? ⟨b, 6, none⟩ = some (.int .i64 c1.sent) ∧ W.cell? ⟨b, 7, none⟩ = some (.int .i64 c1.came) ∧ W.cell? ⟨gw, offw, none⟩ = some (.string (hd c1.waits)) :=
        fun W hu => ⟨(hu.cell (cell_lt' r4) n6).trans r4, (hu.cell (cell_lt' r6) n6).trans r6, (hu.cell (cell_lt' r7) n6).trans r7, (hu.cell (cell_lt' q0) n7).trans q0⟩
      refine wp_region_facts (.grow 17 18 60 3 w7.heap.size (.slice ao1 no1 capo1) no1 ((items l1)) oo1 (no1 + 1) ((items l1) ++ [.int .i64 c1.sent, .int .i64 c1.came, .string (hd c1.waits)])) (H6') [.is (.slice ao1 no1 capo1), .is ((.pointer (some ⟨b, 0, none⟩))), .is ((.pointer (some ⟨b, 0, none⟩))), .is ((.pointer (some ⟨b, 6, none⟩))), .is (.int .i64 c1.sent), .is ((.pointer (some ⟨b, 0, none⟩))), .is ((.pointer (some ⟨b, 0, none⟩))), .is ((.pointer (some ⟨b, 7, none⟩))), .is (.int .i64 c1.came), .is ((.pointer (some ⟨b, 0, none⟩))), .is ((.pointer (some ⟨b, 0, none⟩))), .is ((.pointer (some ⟨b, 4, none⟩))), .is (.slice (some ⟨gw, offw, none⟩) nw capw1), .is (.pointer (some ⟨gw, offw, none⟩)), .is (.string (hd c1.waits)), .is (.agg #[.int .i64 c1.sent, .int .i64 c1.came, .string (hd c1.waits)]), .made (w7.heap.size) (by exact l6) 1 60 #[.int .i64 c1.sent, .int .i64 c1.came, .string (hd c1.waits)], .any, .any] (by kernel_rfl) (by kernel_rfl) (by kernel_rfl) (by kernel_rfl) ?_ ?_
      · refine Steps.cons ?_ (Steps.cons ?_ (Steps.cons ?_ (Steps.cons ?_ (Steps.cons ?_ (Steps.cons ?_ (Steps.cons ?_ (Steps.cons ?_ (Steps.cons ?_ (Steps.cons ?_ (Steps.cons ?_ (Steps.cons ?_ (Steps.cons ?_ (Steps.cons ?_ (Steps.cons ?_ (Steps.cons ?_ (Steps.cons ?_ (Steps.cons ?_ (Steps.cons ?_ Steps.nil))))))))))))))))))
        · refine step_is _ rfl ⟨_, rfl⟩ rfl (fun _ _ => trivial) ?_
          intro a W hi hF hD
          have hu := hi.upd
          have e3 : a.tmps[3]?.getD undef = _ := (ev a 3).symm.trans (hF 3 (by kernel_rfl))
          clear hF hD
          have hc := hcells W hu
          go_simp
        · refine step_is _ rfl ⟨_, rfl⟩ rfl (fun _ _ => trivial) ?_
          intro a W hi hF hD
          have hu := hi.upd
          have e0 : a.tmps[0]?.getD undef = _ := (ev a 0).symm.trans (hF 0 (by kernel_rfl))
          clear hF hD
          have hc := hcells W hu
          go_simp
        · refine step_is _ rfl ⟨_, rfl⟩ rfl (fun _ _ => trivial) ?_
          intro a W hi hF hD
          have hu := hi.upd
          have e73 : a.tmps[73]?.getD undef = (.pointer (some ⟨b, 0, none⟩)) := (ev a 73).symm.trans (hD _ (Array.mem_of_getElem? (i := 0) rfl) rfl).1
          clear hF hD
          have hc := hcells W hu
          go_simp
        · refine step_is _ rfl ⟨_, rfl⟩ rfl (fun _ _ => trivial) ?_
          intro a W hi hF hD
          have hu := hi.upd
          have e74 : a.tmps[74]?.getD undef = (.pointer (some ⟨b, 0, none⟩)) := (ev a 74).symm.trans (hD _ (Array.mem_of_getElem? (i := 0) rfl) rfl).1
          clear hF hD
          have hc := hcells W hu
          go_simp
        · refine step_is _ rfl ⟨_, rfl⟩ rfl (fun _ _ => trivial) ?_
          intro a W hi hF hD
          have hu := hi.upd
          have e75 : a.tmps[75]?.getD undef = (.pointer (some ⟨b, 6, none⟩)) := (ev a 75).symm.trans (hD _ (Array.mem_of_getElem? (i := 0) rfl) rfl).1
          clear hF hD
          have hc := hcells W hu
          go_simp
        · refine step_is _ rfl ⟨_, rfl⟩ rfl (fun _ _ => trivial) ?_
          intro a W hi hF hD
          have hu := hi.upd
          have e0 : a.tmps[0]?.getD undef = _ := (ev a 0).symm.trans (hF 0 (by kernel_rfl))
          clear hF hD
          have hc := hcells W hu
          go_simp
        · refine step_is _ rfl ⟨_, rfl⟩ rfl (fun _ _ => trivial) ?_
          intro a W hi hF hD
          have hu := hi.upd
          have e77 : a.tmps[77]?.getD undef = (.pointer (some ⟨b, 0, none⟩)) := (ev a 77).symm.trans (hD _ (Array.mem_of_getElem? (i := 0) rfl) rfl).1
          clear hF hD
          have hc := hcells W hu
          go_simp
        · refine step_is _ rfl ⟨_, rfl⟩ rfl (fun _ _ => trivial) ?_
          intro a W hi hF hD
          have hu := hi.upd
          have e78 : a.tmps[78]?.getD undef = (.pointer (some ⟨b, 0, none⟩)) := (ev a 78).symm.trans (hD _ (Array.mem_of_getElem? (i := 0) rfl) rfl).1
          clear hF hD
          have hc := hcells W hu
          go_simp
        · refine step_is _ rfl ⟨_, rfl⟩ rfl (fun _ _ => trivial) ?_
          intro a W hi hF hD
          have hu := hi.upd
          have e79 : a.tmps[79]?.getD undef = (.pointer (some ⟨b, 7, none⟩)) := (ev a 79).symm.trans (hD _ (Array.mem_of_getElem? (i := 0) rfl) rfl).1
          clear hF hD
          have hc := hcells W hu
          go_simp
        · refine step_is _ rfl ⟨_, rfl⟩ rfl (fun _ _ => trivial) ?_
          intro a W hi hF hD
          have hu := hi.upd
          have e0 : a.tmps[0]?.getD undef = _ := (ev a 0).symm.trans (hF 0 (by kernel_rfl))
          clear hF hD
          have hc := hcells W hu
          go_simp
        · refine step_is _ rfl ⟨_, rfl⟩ rfl (fun _ _ => trivial) ?_
          intro a W hi hF hD
          have hu := hi.upd
          have e81 : a.tmps[81]?.getD undef = (.pointer (some ⟨b, 0, none⟩)) := (ev a 81).symm.trans (hD _ (Array.mem_of_getElem? (i := 0) rfl) rfl).1
          clear hF hD
          have hc := hcells W hu
          go_simp
        · refine step_is _ rfl ⟨_, rfl⟩ rfl (fun _ _ => trivial) ?_
          intro a W hi hF hD
          have hu := hi.upd
          have e82 : a.tmps[82]?.getD undef = (.pointer (some ⟨b, 0, none⟩)) := (ev a 82).symm.trans (hD _ (Array.mem_of_getElem? (i := 0) rfl) rfl).1
          clear hF hD
          have hc := hcells W hu
          go_simp
        · refine step_is _ rfl ⟨_, rfl⟩ rfl (fun _ _ => trivial) ?_
          intro a W hi hF hD
          have hu := hi.upd
          have e83 : a.tmps[83]?.getD undef = (.pointer (some ⟨b, 4, none⟩)) := (ev a 83).symm.trans (hD _ (Array.mem_of_getElem? (i := 0) rfl) rfl).1
          clear hF hD
          have hc := hcells W hu
          go_simp
        · refine step_is _ rfl ⟨_, rfl⟩ rfl (fun _ _ => trivial) ?_
          intro a W hi hF hD
          have hu := hi.upd
          have e84 : a.tmps[84]?.getD undef = .slice (some ⟨gw, offw, none⟩) nw capw1 := (ev a 84).symm.trans (hD _ (Array.mem_of_getElem? (i := 0) rfl) rfl).1
          clear hF hD
          have hc := hcells W hu
          go_simp
        · refine step_is _ rfl ⟨_, rfl⟩ rfl (fun _ _ => trivial) ?_
          intro a W hi hF hD
          have hu := hi.upd
          have e85 : a.tmps[85]?.getD undef = .pointer (some ⟨gw, offw, none⟩) := (ev a 85).symm.trans (hD _ (Array.mem_of_getElem? (i := 0) rfl) rfl).1
          clear hF hD
          have hc := hcells W hu
          go_simp
        · refine step_is _ rfl ⟨_, rfl⟩ rfl (fun _ _ => trivial) ?_
          intro a W hi hF hD
          have hu := hi.upd
          have e76 : a.tmps[76]?.getD undef = .int .i64 c1.sent := (ev a 76).symm.trans (hD _ (Array.mem_of_getElem? (i := 0) rfl) rfl).1
          have e80 : a.tmps[80]?.getD undef = .int .i64 c1.came := (ev a 80).symm.trans (hD _ (Array.mem_of_getElem? (i := 1) rfl) rfl).1
          have e86 : a.tmps[86]?.getD undef = .string (hd c1.waits) := (ev a 86).symm.trans (hD _ (Array.mem_of_getElem? (i := 2) rfl) rfl).1
          clear hF hD
          have hc := hcells W hu
          go_simp
        · refine step_run rfl (fun _ _ => trivial) ?_
          intro a W hi hF hD
          have hu := hi.upd
          have e87 : a.tmps[87]?.getD undef = .agg #[.int .i64 c1.sent, .int .i64 c1.came, .string (hd c1.waits)] := (ev a 87).symm.trans (hD _ (Array.mem_of_getElem? (i := 0) rfl) rfl).1
          clear hF hD
          have hc := hcells W hu
          exact ⟨_, _, by (go_simp; first | done | rfl | exact ⟨rfl, rfl⟩), (Upd.refl _ _).alloc _, _, hu.size, rfl, Blk.new _ _ _⟩
        · refine step_gen rfl ⟨_, rfl⟩ ?_
          intro a W hi hF hD
          have hu := hi.upd
          have e72 : a.tmps[72]?.getD undef = .slice ao1 no1 capo1 := (ev a 72).symm.trans (hD _ (Array.mem_of_getElem? (i := 0) rfl) rfl).1
          obtain ⟨g88, _, e88, b88⟩ : ∃ g, w7.heap.size ≤ g ∧ a.eval (.tmp 88) = .slice (some ⟨g, 0, none⟩) 1 1 ∧ Blk W g 60 #[.int .i64 c1.sent, .int .i64 c1.came, .string (hd c1.waits)] := (hD _ (Array.mem_of_getElem? (i := 1) rfl) rfl).1
          rw [ev] at e88
          clear hF hD
          have hc := hcells W hu
          obtain ⟨g, off2, cap2, w2, own2, r1, r2, r3, r4, r5⟩ := run_append_keep (P := Tryz.prog) W 67 67 60 i0 _ 3 32 Tryz.underlying67 hi0 hz0 hz1 hz2 rfl (by decide) (.slice ao1 no1 capo1) no1 ((items l1)) oo1 hi.hold ⟨g88, 0, none⟩ 1 1 [.int .i64 c1.sent, .int .i64 c1.came, .string (hd c1.waits)] rfl (World.news_of_block b88) (by simp [Value.oneCell']) (by decide) (by simp only [maxLen]; omega) (by omega)
          exact ⟨_, w2, exec_append rfl (by rw [ev]; exact e72) (by rw [ev]; exact e88) r1, Env.grow_set hu r4 r5 ⟨g, off2, cap2, own2, rfl, r2, fun k hk => (r3 k hk).imp id (Nat.le_trans hu.size)⟩⟩
        · refine step_gen rfl ⟨_, rfl⟩ ?_
          intro a W hi hF hD
          have hu := hi.upd
          have d89 := (hD _ (Array.mem_of_getElem? (i := 0) rfl) rfl).2
          clear hF hD
          have hc := hcells W hu
          exact ⟨_, W, by (go_simp; first | done | rfl | exact ⟨rfl, rfl⟩), Env.grow_on hi (by rw [← ev]; exact d89)⟩
      intro vals W hu hv
      have v0 : vals 0 = .slice ao1 no1 capo1 := (hv 0 (by decide)).1
      have v1 : vals 1 = (.pointer (some ⟨b, 0, none⟩)) := (hv 1 (by decide)).1
      have v2 : vals 2 = (.pointer (some ⟨b, 0, none⟩)) := (hv 2 (by decide)).1
      have v3 : vals 3 = (.pointer (some ⟨b, 6, none⟩)) := (hv 3 (by decide)).1
      have v4 : vals 4 = .int .i64 c1.sent := (hv 4 (by decide)).1
      have v5 : vals 5 = (.pointer (some ⟨b, 0, none⟩)) := (hv 5 (by decide)).1
      have v6 : vals 6 = (.pointer (some ⟨b, 0, none⟩)) := (hv 6 (by decide)).1
      have v7 : vals 7 = (.pointer (some ⟨b, 7, none⟩)) := (hv 7 (by decide)).1
      have v8 : vals 8 = .int .i64 c1.came := (hv 8 (by decide)).1
      have v9 : vals 9 = (.pointer (some ⟨b, 0, none⟩)) := (hv 9 (by decide)).1
      have v10 : vals 10 = (.pointer (some ⟨b, 0, none⟩)) := (hv 10 (by decide)).1
      have v11 : vals 11 = (.pointer (some ⟨b, 4, none⟩)) := (hv 11 (by decide)).1
      have v12 : vals 12 = .slice (some ⟨gw, offw, none⟩) nw capw1 := (hv 12 (by decide)).1
      have v13 : vals 13 = .pointer (some ⟨gw, offw, none⟩) := (hv 13 (by decide)).1
      have v14 : vals 14 = .string (hd c1.waits) := (hv 14 (by decide)).1
      have v15 : vals 15 = .agg #[.int .i64 c1.sent, .int .i64 c1.came, .string (hd c1.waits)] := (hv 15 (by decide)).1
      obtain ⟨g16, _, v16, b16⟩ : ∃ g, w7.heap.size ≤ g ∧ vals 16 = .slice (some ⟨g, 0, none⟩) 1 1 ∧ Blk W g 60 #[.int .i64 c1.sent, .int .i64 c1.came, .string (hd c1.waits)] := (hv 16 (by decide)).1
      have v17 := (hv 17 (by decide)).2
      have v18 := (hv 18 (by decide)).2
      clear hv
      obtain ⟨g, off2, cap2, own2, q18, ho2, hin2⟩ := Env.grow_get 18 rfl v18
      simp only [putAll, Act.put, Nat.zero_add, Nat.reduceAdd, q18, v0, v1, v2, v3, v4, v5, v6, v7, v8, v9, v10, v11, v12, v13, v14, v15, v16, List.setIfInBounds_toArray, List.set_cons_zero, List.set_cons_succ]
      clear v0 v1 v2 v3 v4 v5 v6 v7 v8 v9 v10 v11 v12 v13 v14 v15 v16

      rw [q18] at ho2
      obtain ⟨w8, hw8⟩ : ∃ x, x = W := ⟨_, rfl⟩
      subst hw8
      have X8 := X7.said HNO1.out (Upd.refl _ _) (i := c1.flyItem) ho2 hin2 hu
      have hx8 := X8.h3
      rw [← HNW.out, ← HNF1.out] at hx8
      clear r4 r6 r7 q0 hcells H6'
      have s4 := hx8.cell 4
      have s5 := hx8.cell 5
      have s6 := hx8.cell 6
      simp [C.rcells] at s4 s5 s6
      obtain ⟨_, _, _, hvw, _, _, _, hcellw⟩ := X8.h4.form (by rw [← HNW.out]; exact u1)
      cases hvw
      have q0 : w8.cell? ⟨gw, offw, none⟩ = some (.string (hd c1.waits)) := by simpa using hcellw 0 _ (strs_hd (by rw [← HNW.out]; exact u1))
      have hfz8 := hx8.frozen
      have HRF : Hid (Rd w8 2 (.slice af1 nf1 capf1) nf1 c1.rflies) := by
        have h := X8.h5.rd' (rfl_one _ _)
        rw [← HNF1.out] at h
        exact h
      obtain ⟨j0, hj0, hy0, hy1, hy2⟩ := info_parts rinfo_fly
      have HX8 := Lib.hid X8
      have hcells : ∀ W, Upd [] w8 W → W.cell? ⟨b, 4, none⟩ = some (.slice (some ⟨gw, offw, none⟩) nw capw1) ∧ W.cell? ⟨b, 5, none⟩ = some (.slice af1 nf1 capf1) ∧ W.cell? ⟨b, 6, none⟩ = some (.int .i64 c1.sent) ∧ W.cell? ⟨gw, offw, none⟩ = some (.string (hd c1.waits)) :=
        fun W hu => ⟨(hu.cell (cell_lt' s4) (by simp)).trans s4, (hu.cell (cell_lt' s5) (by simp)).trans s5, (hu.cell (cell_lt' s6) (by simp)).trans s6, (hu.cell (cell_lt' q0) (by simp)).trans q0⟩
      have hfro : ∀ W, Upd [] w8 W → W.frozen? ⟨b, 5, none⟩ = false := fun W hu => (hx8.upd hu (by simp)).frozen 5
      clear hx8 X8 ho2 hin2 hu hcellw X7 hu7
      go_wp2_with fail
      refine wp_region_res3 [some ((.pointer (some ⟨b, 0, none⟩))), some ((.pointer (some ⟨b, 0, none⟩))), some ((.pointer (some ⟨b, 0, none⟩))), some ((.pointer (some ⟨b, 5, none⟩))), some (.slice af1 nf1 capf1), none, some ((.pointer (some ⟨b, 0, none⟩))), some ((.pointer (some ⟨b, 0, none⟩))), some ((.pointer (some ⟨b, 6, none⟩))), some (.int .i64 c1.sent), some ((.pointer (some ⟨b, 0, none⟩))), some ((.pointer (some ⟨b, 0, none⟩))), some ((.pointer (some ⟨b, 4, none⟩))), some (.slice (some ⟨gw, offw, none⟩) nw capw1), some (.pointer (some ⟨gw, offw, none⟩)), some (.string (hd c1.waits)), some (.agg #[.int .i64 c1.sent, .string (hd c1.waits)]), none, none, some ((.pointer (some ⟨b, 0, none⟩))), some ((.pointer (some ⟨b, 5, none⟩))), none] [5, 18, 21] [17, 18] [] (roA w8 b nf1 c1.rflies [.int .i64 c1.sent, .string (hd c1.waits)]) (roB w8 #[.int .i64 c1.sent, .string (hd c1.waits)]) (roC) [[(0, 2), (0, 2), (0, 0)], [(0, 0), (0, 1), (0, 0)], [(0, 0), (0, 1), (0, 0)], [(0, 0), (0, 1), (0, 0)], [(0, 0), (0, 1), (0, 0)], [(0, 0), (0, 1), (0, 0)], [(0, 1), (0, 0), (0, 0)], [(0, 1), (0, 0), (0, 0)], [(0, 1), (0, 0), (0, 0)], [(0, 1), (0, 0), (0, 0)], [(0, 1), (0, 0), (0, 0)], [(0, 1), (0, 0), (0, 0)], [(0, 1), (0, 0), (0, 0)], [(0, 1), (0, 0), (0, 0)], [(0, 1), (0, 0), (0, 0)], [(0, 1), (0, 0), (0, 0)], [(0, 1), (0, 0), (0, 0)], [(0, 1), (0, 0), (0, 0)], [(1, 1), (1, 1), (0, 0)], [(2, 2), (2, 2), (0, 0)], [(2, 2), (2, 2), (0, 0)], [(2, 2), (2, 2), (0, 0)]] (by kernel_rfl) (by kernel_rfl) (by kernel_rfl) (by kernel_rfl) (by kernel_rfl) (by kernel_rfl) ((Upd.refl _ _).drew) (trivial) (trivial) ?_ ?_
      · refine StepsR.cons ?_ (StepsR.cons ?_ (StepsR.cons ?_ (StepsR.cons ?_ (StepsR.cons ?_ (StepsR.cons ?_ (StepsR.cons ?_ (StepsR.cons ?_ (StepsR.cons ?_ (StepsR.cons ?_ (StepsR.cons ?_ (StepsR.cons ?_ (StepsR.cons ?_ (StepsR.cons ?_ (StepsR.cons ?_ (StepsR.cons ?_ (StepsR.cons ?_ (StepsR.cons ?_ (StepsR.cons ?_ (StepsR.cons ?_ (StepsR.cons ?_ (StepsR.cons ?_ StepsR.nil)))))))))))))))))))))
        · refine res_is _ rfl ⟨_, rfl⟩ (by kernel_rfl) rfl ?_
          intro a W ks hR hF hD
          obtain ⟨⟨l0, u0, A0⟩, ⟨l1, u1, A1⟩, ⟨l2, u2, A2⟩, -⟩ := hR
          have k2 := Nat.le_antisymm u2 l2
          rw [k2] at A2
          have e0 : a.tmps[0]?.getD undef = _ := (ev a 0).symm.trans (hF 0 (by kernel_rfl))
          clear hF hD
          go_simp
        · refine res_is _ rfl ⟨_, rfl⟩ (by kernel_rfl) rfl ?_
          intro a W ks hR hF hD
          obtain ⟨⟨l0, u0, A0⟩, ⟨l1, u1, A1⟩, ⟨l2, u2, A2⟩, -⟩ := hR
          have k0 := Nat.le_antisymm u0 l0
          rw [k0] at A0
          have k2 := Nat.le_antisymm u2 l2
          rw [k2] at A2
          have e0 : a.tmps[0]?.getD undef = _ := (ev a 0).symm.trans (hF 0 (by kernel_rfl))
          clear hF hD
          go_simp
        · refine res_is _ rfl ⟨_, rfl⟩ (by kernel_rfl) rfl ?_
          intro a W ks hR hF hD
          obtain ⟨⟨l0, u0, A0⟩, ⟨l1, u1, A1⟩, ⟨l2, u2, A2⟩, -⟩ := hR
          have k0 := Nat.le_antisymm u0 l0
          rw [k0] at A0
          have k2 := Nat.le_antisymm u2 l2
          rw [k2] at A2
          have e91 : a.tmps[91]?.getD undef = (.pointer (some ⟨b, 0, none⟩)) := (ev a 91).symm.trans (hD _ (Array.mem_of_getElem? (i := 0) rfl) rfl)
          clear hF hD
          go_simp
        · refine res_is _ rfl ⟨_, rfl⟩ (by kernel_rfl) rfl ?_
          intro a W ks hR hF hD
          obtain ⟨⟨l0, u0, A0⟩, ⟨l1, u1, A1⟩, ⟨l2, u2, A2⟩, -⟩ := hR
          have k0 := Nat.le_antisymm u0 l0
          rw [k0] at A0
          have k2 := Nat.le_antisymm u2 l2
          rw [k2] at A2
          have e92 : a.tmps[92]?.getD undef = (.pointer (some ⟨b, 0, none⟩)) := (ev a 92).symm.trans (hD _ (Array.mem_of_getElem? (i := 0) rfl) rfl)
          clear hF hD
          go_simp
        · refine res_is _ rfl ⟨_, rfl⟩ (by kernel_rfl) rfl ?_
          intro a W ks hR hF hD
          obtain ⟨⟨l0, u0, A0⟩, ⟨l1, u1, A1⟩, ⟨l2, u2, A2⟩, -⟩ := hR
          have k0 := Nat.le_antisymm u0 l0
          rw [k0] at A0
          have k2 := Nat.le_antisymm u2 l2
          rw [k2] at A2
          have e93 : a.tmps[93]?.getD undef = (.pointer (some ⟨b, 5, none⟩)) := (ev a 93).symm.trans (hD _ (Array.mem_of_getElem? (i := 0) rfl) rfl)
          clear hF hD
          have hu : Upd [] w8 W := A0
          have hc := hcells W hu
          go_simp
        · refine res_run rfl ⟨_, rfl⟩ ?_
          intro a W ks hR hF hD
          obtain ⟨⟨l0, u0, A0⟩, ⟨l1, u1, A1⟩, ⟨l2, u2, A2⟩, -⟩ := hR
          have k0 := Nat.le_antisymm u0 l0
          rw [k0] at A0
          have k2 := Nat.le_antisymm u2 l2
          rw [k2] at A2
          have e94 : a.tmps[94]?.getD undef = .slice af1 nf1 capf1 := (ev a 94).symm.trans (hD _ (Array.mem_of_getElem? (i := 0) rfl) rfl)
          clear hF hD
          have hu : Upd [] w8 W := A0
          have hrd : Rd W 2 (a.tmps[94]?.getD undef) nf1 c1.rflies := by rw [e94]; exact HRF.out.upd hu
          obtain ⟨ao2, cap2, w2, own2, r1, r2, r3, r4⟩ := run_append_Rd (P := Tryz.prog) W 72 72 86 j0 _ 2 24 Tryz.underlying72 hj0 hy0 hy1 hy2 rfl (by decide) (.slice none 0 0) 0 [] [] (Own.nil _ _ _) _ nf1 _ hrd (by simp only [maxLen]; omega) (by omega)
          simp only [Nat.zero_add, List.nil_append] at r1 r2
          refine ⟨_, w2, ?_, trivial, next_post k0 (by kernel_rfl) ⟨hu.trans r4, ao2, cap2, own2, rfl, r2, fun y hy => (r3 y hy).elim (fun h => by simp at h) (fun h => Nat.le_trans hu.size h)⟩, kept_post (by kernel_rfl) (roB.upd A1 r4), kept_post (by kernel_rfl) trivial, trivial⟩
          simp only [execOp, resolve, invoke, builtin, Sem.run_bind, Sem.run_pure, Result.andThen_ok, List.map_toArray, List.map_cons, List.map_nil, ev, show a.eval (.const (.slice none 0 0)) = Value.slice none 0 0 from rfl, r1]
        · refine res_is _ rfl ⟨_, rfl⟩ (by kernel_rfl) rfl ?_
          intro a W ks hR hF hD
          obtain ⟨⟨l0, u0, A0⟩, ⟨l1, u1, A1⟩, ⟨l2, u2, A2⟩, -⟩ := hR
          have k1 := Nat.le_antisymm u1 l1
          rw [k1] at A1
          have k2 := Nat.le_antisymm u2 l2
          rw [k2] at A2
          have e0 : a.tmps[0]?.getD undef = _ := (ev a 0).symm.trans (hF 0 (by kernel_rfl))
          clear hF hD
          go_simp
        · refine res_is _ rfl ⟨_, rfl⟩ (by kernel_rfl) rfl ?_
          intro a W ks hR hF hD
          obtain ⟨⟨l0, u0, A0⟩, ⟨l1, u1, A1⟩, ⟨l2, u2, A2⟩, -⟩ := hR
          have k1 := Nat.le_antisymm u1 l1
          rw [k1] at A1
          have k2 := Nat.le_antisymm u2 l2
          rw [k2] at A2
          have e96 : a.tmps[96]?.getD undef = (.pointer (some ⟨b, 0, none⟩)) := (ev a 96).symm.trans (hD _ (Array.mem_of_getElem? (i := 0) rfl) rfl)
          clear hF hD
          go_simp
        · refine res_is _ rfl ⟨_, rfl⟩ (by kernel_rfl) rfl ?_
          intro a W ks hR hF hD
          obtain ⟨⟨l0, u0, A0⟩, ⟨l1, u1, A1⟩, ⟨l2, u2, A2⟩, -⟩ := hR
          have k1 := Nat.le_antisymm u1 l1
          rw [k1] at A1
          have k2 := Nat.le_antisymm u2 l2
          rw [k2] at A2
          have e97 : a.tmps[97]?.getD undef = (.pointer (some ⟨b, 0, none⟩)) := (ev a 97).symm.trans (hD _ (Array.mem_of_getElem? (i := 0) rfl) rfl)
          clear hF hD
          go_simp
        · refine res_is _ rfl ⟨_, rfl⟩ (by kernel_rfl) rfl ?_
          intro a W ks hR hF hD
          obtain ⟨⟨l0, u0, A0⟩, ⟨l1, u1, A1⟩, ⟨l2, u2, A2⟩, -⟩ := hR
          have k1 := Nat.le_antisymm u1 l1
          rw [k1] at A1
          have k2 := Nat.le_antisymm u2 l2
          rw [k2] at A2
          have e98 : a.tmps[98]?.getD undef = (.pointer (some ⟨b, 6, none⟩)) := (ev a 98).symm.trans (hD _ (Array.mem_of_getElem? (i := 0) rfl) rfl)
          clear hF hD
          have hu : Upd [] w8 W := roA.frame A0 (by rw [List.length_map, List.length_take]; exact Nat.le_trans (Nat.min_le_left _ _) (Nat.le_trans u0 (by decide)))
          have hc := hcells W hu
          go_simp
        · refine res_is _ rfl ⟨_, rfl⟩ (by kernel_rfl) rfl ?_
          intro a W ks hR hF hD
          obtain ⟨⟨l0, u0, A0⟩, ⟨l1, u1, A1⟩, ⟨l2, u2, A2⟩, -⟩ := hR
          have k1 := Nat.le_antisymm u1 l1
          rw [k1] at A1
          have k2 := Nat.le_antisymm u2 l2
          rw [k2] at A2
          have e0 : a.tmps[0]?.getD undef = _ := (ev a 0).symm.trans (hF 0 (by kernel_rfl))
          clear hF hD
          go_simp
        · refine res_is _ rfl ⟨_, rfl⟩ (by kernel_rfl) rfl ?_
          intro a W ks hR hF hD
          obtain ⟨⟨l0, u0, A0⟩, ⟨l1, u1, A1⟩, ⟨l2, u2, A2⟩, -⟩ := hR
          have k1 := Nat.le_antisymm u1 l1
          rw [k1] at A1
          have k2 := Nat.le_antisymm u2 l2
          rw [k2] at A2
          have e100 : a.tmps[100]?.getD undef = (.pointer (some ⟨b, 0, none⟩)) := (ev a 100).symm.trans (hD _ (Array.mem_of_getElem? (i := 0) rfl) rfl)
          clear hF hD
          go_simp
        · refine res_is _ rfl ⟨_, rfl⟩ (by kernel_rfl) rfl ?_
          intro a W ks hR hF hD
          obtain ⟨⟨l0, u0, A0⟩, ⟨l1, u1, A1⟩, ⟨l2, u2, A2⟩, -⟩ := hR
          have k1 := Nat.le_antisymm u1 l1
          rw [k1] at A1
          have k2 := Nat.le_antisymm u2 l2
          rw [k2] at A2
          have e101 : a.tmps[101]?.getD undef = (.pointer (some ⟨b, 0, none⟩)) := (ev a 101).symm.trans (hD _ (Array.mem_of_getElem? (i := 0) rfl) rfl)
          clear hF hD
          go_simp
        · refine res_is _ rfl ⟨_, rfl⟩ (by kernel_rfl) rfl ?_
          intro a W ks hR hF hD
          obtain ⟨⟨l0, u0, A0⟩, ⟨l1, u1, A1⟩, ⟨l2, u2, A2⟩, -⟩ := hR
          have k1 := Nat.le_antisymm u1 l1
          rw [k1] at A1
          have k2 := Nat.le_antisymm u2 l2
          rw [k2] at A2
          have e102 : a.tmps[102]?.getD undef = (.pointer (some ⟨b, 4, none⟩)) := (ev a 102).symm.trans (hD _ (Array.mem_of_getElem? (i := 0) rfl) rfl)
          clear hF hD
          have hu : Upd [] w8 W := roA.frame A0 (by rw [List.length_map, List.length_take]; exact Nat.le_trans (Nat.min_le_left _ _) (Nat.le_trans u0 (by decide)))
          have hc := hcells W hu
          go_simp
        · refine res_is _ rfl ⟨_, rfl⟩ (by kernel_rfl) rfl ?_
          intro a W ks hR hF hD
          obtain ⟨⟨l0, u0, A0⟩, ⟨l1, u1, A1⟩, ⟨l2, u2, A2⟩, -⟩ := hR
          have k1 := Nat.le_antisymm u1 l1
          rw [k1] at A1
          have k2 := Nat.le_antisymm u2 l2
          rw [k2] at A2
          have e103 : a.tmps[103]?.getD undef = .slice (some ⟨gw, offw, none⟩) nw capw1 := (ev a 103).symm.trans (hD _ (Array.mem_of_getElem? (i := 0) rfl) rfl)
          clear hF hD
          go_simp
        · refine res_is _ rfl ⟨_, rfl⟩ (by kernel_rfl) rfl ?_
          intro a W ks hR hF hD
          obtain ⟨⟨l0, u0, A0⟩, ⟨l1, u1, A1⟩, ⟨l2, u2, A2⟩, -⟩ := hR
          have k1 := Nat.le_antisymm u1 l1
          rw [k1] at A1
          have k2 := Nat.le_antisymm u2 l2
          rw [k2] at A2
          have e104 : a.tmps[104]?.getD undef = .pointer (some ⟨gw, offw, none⟩) := (ev a 104).symm.trans (hD _ (Array.mem_of_getElem? (i := 0) rfl) rfl)
          clear hF hD
          have hu : Upd [] w8 W := roA.frame A0 (by rw [List.length_map, List.length_take]; exact Nat.le_trans (Nat.min_le_left _ _) (Nat.le_trans u0 (by decide)))
          have hc := hcells W hu
          go_simp
        · refine res_is _ rfl ⟨_, rfl⟩ (by kernel_rfl) rfl ?_
          intro a W ks hR hF hD
          obtain ⟨⟨l0, u0, A0⟩, ⟨l1, u1, A1⟩, ⟨l2, u2, A2⟩, -⟩ := hR
          have k1 := Nat.le_antisymm u1 l1
          rw [k1] at A1
          have k2 := Nat.le_antisymm u2 l2
          rw [k2] at A2
          have e99 : a.tmps[99]?.getD undef = .int .i64 c1.sent := (ev a 99).symm.trans (hD _ (Array.mem_of_getElem? (i := 0) rfl) rfl)
          have e105 : a.tmps[105]?.getD undef = .string (hd c1.waits) := (ev a 105).symm.trans (hD _ (Array.mem_of_getElem? (i := 1) rfl) rfl)
          clear hF hD
          go_simp
        · refine res_run rfl ⟨_, rfl⟩ ?_
          intro a W ks hR hF hD
          obtain ⟨⟨l0, u0, A0⟩, ⟨l1, u1, A1⟩, ⟨l2, u2, A2⟩, -⟩ := hR
          have k1 := Nat.le_antisymm u1 l1
          rw [k1] at A1
          have k2 := Nat.le_antisymm u2 l2
          rw [k2] at A2
          have e106 : a.tmps[106]?.getD undef = .agg #[.int .i64 c1.sent, .string (hd c1.waits)] := (ev a 106).symm.trans (hD _ (Array.mem_of_getElem? (i := 0) rfl) rfl)
          clear hF hD
          have hu : Upd [] w8 W := roA.frame A0 (by rw [List.length_map, List.length_take]; exact Nat.le_trans (Nat.min_le_left _ _) (Nat.le_trans u0 (by decide)))
          have U5 : Upd [] W (W.alloc (.cells #[.int .i64 c1.sent, .string (hd c1.waits)] 86)) := (Upd.refl _ _).alloc _
          exact ⟨.slice (some ⟨W.heap.size, 0, none⟩) 1 1, W.alloc (.cells #[.int .i64 c1.sent, .string (hd c1.waits)] 86), by (go_simp; first | done | rfl), trivial, kept_post (by kernel_rfl) (roA.upd A0 (by rw [List.length_map, List.length_take]; exact Nat.le_trans (Nat.min_le_left _ _) (Nat.le_trans u0 (by decide))) U5), next_post k1 (by kernel_rfl) ⟨W.heap.size, hu.size, rfl, Blk.new _ _ _⟩, kept_post (by kernel_rfl) trivial, trivial⟩
        · refine res_run rfl ⟨_, rfl⟩ ?_
          intro a W ks hR hF hD
          obtain ⟨⟨l0, u0, A0⟩, ⟨l1, u1, A1⟩, ⟨l2, u2, A2⟩, -⟩ := hR
          have k0 := Nat.le_antisymm u0 l0
          rw [k0] at A0
          have k1 := Nat.le_antisymm u1 l1
          rw [k1] at A1
          have k2 := Nat.le_antisymm u2 l2
          rw [k2] at A2
          clear hF hD
          obtain ⟨hu, ao2, cap2, own2, hv, ho, hf⟩ := A0
          obtain ⟨g1, hg1, hv1, hb1⟩ := A1
          have e95 : a.tmps[95]?.getD undef = _ := (ev a 95).symm.trans hv
          have e107 : a.tmps[107]?.getD undef = _ := (ev a 107).symm.trans hv1
          obtain ⟨g3, off3, cap3, w3, own3, r1, r2, r3, r4⟩ := run_append_Own (P := Tryz.prog) W 72 72 86 j0 _ 2 24 Tryz.underlying72 hj0 hy0 hy1 hy2 rfl (by decide) _ nf1 _ own2 ho ⟨g1, 0, none⟩ 1 1 [.int .i64 c1.sent, .string (hd c1.waits)] rfl (World.news_of_block hb1) (by simp [Value.oneCell']) (by decide) (by simp only [maxLen]; omega) (by omega)
          refine ⟨.slice (some ⟨g3, off3, none⟩) (nf1 + 1) cap3, w3, ?_, trivial, next_post k0 (by kernel_rfl) ⟨hu.trans' r4 (fun y hy => .inr (hf y hy)), _, _, own3, rfl, r2, fun y hy => (r3 y hy).elim (hf y) (fun h => Nat.le_trans hu.size h)⟩, next_post k1 (by kernel_rfl) trivial, kept_post (by kernel_rfl) trivial, trivial⟩
          simp only [execOp, resolve, invoke, builtin, Sem.run_bind, Sem.run_pure, Result.andThen_ok, List.map_toArray, List.map_cons, List.map_nil, ev, show a.eval (.const (.slice none 0 0)) = Value.slice none 0 0 from rfl, e95, e107, r1]
        · refine res_is _ rfl ⟨_, rfl⟩ (by kernel_rfl) rfl ?_
          intro a W ks hR hF hD
          obtain ⟨⟨l0, u0, A0⟩, ⟨l1, u1, A1⟩, ⟨l2, u2, A2⟩, -⟩ := hR
          have k0 := Nat.le_antisymm u0 l0
          rw [k0] at A0
          have k1 := Nat.le_antisymm u1 l1
          rw [k1] at A1
          have k2 := Nat.le_antisymm u2 l2
          rw [k2] at A2
          have e90 : a.tmps[90]?.getD undef = (.pointer (some ⟨b, 0, none⟩)) := (ev a 90).symm.trans (hD _ (Array.mem_of_getElem? (i := 0) rfl) rfl)
          clear hF hD
          go_simp
        · refine res_is _ rfl ⟨_, rfl⟩ (by kernel_rfl) rfl ?_
          intro a W ks hR hF hD
          obtain ⟨⟨l0, u0, A0⟩, ⟨l1, u1, A1⟩, ⟨l2, u2, A2⟩, -⟩ := hR
          have k0 := Nat.le_antisymm u0 l0
          rw [k0] at A0
          have k1 := Nat.le_antisymm u1 l1
          rw [k1] at A1
          have k2 := Nat.le_antisymm u2 l2
          rw [k2] at A2
          have e109 : a.tmps[109]?.getD undef = (.pointer (some ⟨b, 0, none⟩)) := (ev a 109).symm.trans (hD _ (Array.mem_of_getElem? (i := 0) rfl) rfl)
          clear hF hD
          go_simp
        · refine res_set rfl rfl trivial ?_
          intro a W ks hR hF hD
          obtain ⟨⟨l0, u0, A0⟩, ⟨l1, u1, A1⟩, ⟨l2, u2, A2⟩, -⟩ := hR
          have k0 := Nat.le_antisymm u0 l0
          rw [k0] at A0
          have k1 := Nat.le_antisymm u1 l1
          rw [k1] at A1
          have k2 := Nat.le_antisymm u2 l2
          rw [k2] at A2
          have e110 : a.tmps[110]?.getD undef = (.pointer (some ⟨b, 5, none⟩)) := (ev a 110).symm.trans (hD _ (Array.mem_of_getElem? (i := 0) rfl) rfl)
          clear hF hD
          obtain ⟨hu, ao2, cap2, own2, hv, ho, hf⟩ := A0
          have e108 : a.tmps[108]?.getD undef = _ := (ev a 108).symm.trans hv
          have hc := hcells W hu
          have hz := hfro W hu
          exact ⟨W.setCell ⟨b, 5, none⟩ (.slice ao2 (nf1 + 1) cap2), by (go_simp; first | done | rfl), next_post k0 (by kernel_rfl) ⟨W, ⟨hu, ao2, cap2, own2, hv, ho, hf⟩, congrArg (W.setCell ⟨b, 5, none⟩) hv.symm⟩, kept_at k1 (by kernel_rfl) trivial, kept_post (by kernel_rfl) trivial, trivial⟩
      intro vals W hv hA1 hA2 hA3
      have v0 : vals 0 = (.pointer (some ⟨b, 0, none⟩)) := hv 0 (by decide)
      have v1 : vals 1 = (.pointer (some ⟨b, 0, none⟩)) := hv 1 (by decide)
      have v2 : vals 2 = (.pointer (some ⟨b, 0, none⟩)) := hv 2 (by decide)
      have v3 : vals 3 = (.pointer (some ⟨b, 5, none⟩)) := hv 3 (by decide)
      have v4 : vals 4 = .slice af1 nf1 capf1 := hv 4 (by decide)
      have v6 : vals 6 = (.pointer (some ⟨b, 0, none⟩)) := hv 6 (by decide)
      have v7 : vals 7 = (.pointer (some ⟨b, 0, none⟩)) := hv 7 (by decide)
      have v8 : vals 8 = (.pointer (some ⟨b, 6, none⟩)) := hv 8 (by decide)
      have v9 : vals 9 = .int .i64 c1.sent := hv 9 (by decide)
      have v10 : vals 10 = (.pointer (some ⟨b, 0, none⟩)) := hv 10 (by decide)
      have v11 : vals 11 = (.pointer (some ⟨b, 0, none⟩)) := hv 11 (by decide)
      have v12 : vals 12 = (.pointer (some ⟨b, 4, none⟩)) := hv 12 (by decide)
      have v13 : vals 13 = .slice (some ⟨gw, offw, none⟩) nw capw1 := hv 13 (by decide)
      have v14 : vals 14 = .pointer (some ⟨gw, offw, none⟩) := hv 14 (by decide)
      have v15 : vals 15 = .string (hd c1.waits) := hv 15 (by decide)
      have v16 : vals 16 = .agg #[.int .i64 c1.sent, .string (hd c1.waits)] := hv 16 (by decide)
      have v19 : vals 19 = (.pointer (some ⟨b, 0, none⟩)) := hv 19 (by decide)
      have v20 : vals 20 = (.pointer (some ⟨b, 5, none⟩)) := hv 20 (by decide)
      clear hv
      obtain ⟨w9, ⟨hu9, ao9, cap9, own9, hv9, ho9, hf9⟩, rfl⟩ := hA1
      have v18 : vals 18 = .slice ao9 (nf1 + 1) cap9 := hv9
      simp only [putAll, Act.put, Nat.zero_add, Nat.reduceAdd, v18, v0, v1, v2, v3, v4, v6, v7, v8, v9, v10, v11, v12, v13, v14, v15, v16, v19, v20, List.setIfInBounds_toArray, List.set_cons_zero, List.set_cons_succ]
      clear v0 v1 v2 v3 v4 v6 v7 v8 v9 v10 v11 v12 v13 v14 v15 v16 v19 v20
      have X9 := HX8.out.keep hu9
      have HC9 : Hid (Own w9 9 1 (.slice (if capw1 = 1 then some ⟨gw, offw, none⟩ else some ⟨gw, offw + 1, none⟩) (nw - 1) (capw1 - 1)) c1.fly.waits.length (strs c1.fly.waits) ow1) := by
        have h1 := X9.h4
        rw [← HNW.out] at h1
        have h2 := h1.cut (k := 1) u1
        simp only [Nat.one_mul] at h2
        have h3 : (strs c1.waits).drop 1 = strs c1.fly.waits := by simp [strs, C.fly]
        have h4 : c1.fly.waits.length = nw - 1 := by rw [HNW.out]; simp [C.fly]
        rw [h3] at h2
        rw [h4]
        exact h2
      have hx9 := X9.h3
      rw [← HNW.out, ← HNF1.out] at hx9
      have v4 := hx9.cell 4
      have v6 := hx9.cell 6
      have v11 := hx9.cell 11
      simp [C.rcells] at v4 v6 v11
      have vfz := hx9.frozen
      have HX9 := Lib.hid X9
      have z1 := HK1.out.s1
      have z2 := HK1.out.s2
      have HF9 : Hid (Own w9 86 2 (.slice ao9 (nf1 + 1) cap9) c1.fly.flies.length c1.fly.rflies own9) := by
        have h4 : c1.fly.flies.length = nf1 + 1 := by rw [HNF1.out]; simp [C.fly]
        show Own _ _ _ _ _ _ _
        rw [h4, C.fly_rflies c1 ⟨z1, z2⟩]
        exact ho9
      have HN9 := Lib.hid (fun k hk => Nat.le_trans HX8.out.u.size (hf9 k hk))
      have HE9 : Hid (C.outLoop (gk - 1) (c1.fly, l1 ++ [c1.flyItem]) = C.outLoop c.waits.length (c, c.outAgain)) := by
        have h1 := HE.out
        rw [show gk = (gk - 1) + 1 by omega, C.outLoop, if_pos ⟨by rw [← HNW.out]; exact u1, by rw [← HNF1.out]; omega⟩] at h1
        exact h1
      clear hx9 X9 hu9 ho9 hf9 hv9 s4 s5 s6 q0 hcells hfro hfz8
      go_wp2_with (go_at_call 35; refine (rmod _ _).mono ?_; rintro e w' ⟨rfl, rfl⟩)
      all_goals
        go_roundg (gk - 1)
        case rel =>
          refine ⟨c1.fly, l1 ++ [c1.flyItem], C.fly_ok HK1.out ⟨by rw [← HNW.out]; exact u1, by rw [← HNF1.out]; omega⟩, HE9.out, ?_, ?_, _, _, _, _, _, HX9.out.flew (by first | exact HC9.out | (have h9 := HC9.out; simp only [*, ↓reduceIte] at h9 ⊢; exact h9)) HF9.out HN9.out⟩
          · rw [show c1.fly.waits.length = nw - 1 by rw [HNW.out]; simp [C.fly]]; omega
          · rw [List.length_append, ← HNO1.out]; simp only [List.length_singleton]; omega
        case measure => omega
    have t68 : nw = 0 ∨ (0 < nw ∧ ¬ ((nf1 : Int) < c1.room)) ∨ (0 < nw ∧ (nf1 : Int) < c1.room ∧ ¬ ((nf1 : Int) < c1.window)) := by omega
    have HFI : Hid (c.out = C.outEnd (c1, l1)) := by
      have h1 := HE.out
      rw [C.outLoop_stop gk (by rintro ⟨h2, h3⟩; rw [← HNW.out] at h2; rw [← HNF1.out] at h3; omega)] at h1
      show _ = _
      rw [HC.out, ← h1]
    clear t67
    go_wp2_with fail
    go_cut [71] (fun s V => s = .bool false ∧ ∃ k, V = wr.drewN k)
    case first =>
      rcases t68 with rfl | ⟨u1, u2⟩ | ⟨u1, u2, u3⟩
      · go_quiet (fail)
        go_wp2_with fail
        go_meet
        case rel => exact ⟨by simp [*], _, rfl⟩
      · have hd : decide ((nf1 : Int) < c1.room) = false := decide_eq_false (by omega)
        go_quiet (fail)
        go_wp2_with fail
        go_meet
        case rel => exact ⟨by simp [*], _, rfl⟩
      · have hd2 : decide ((nf1 : Int) < c1.window) = false := decide_eq_false (by omega)
        have hd : decide ((nf1 : Int) < c1.room) = true := decide_eq_true (by omega)
        go_quiet (fail)
        go_wp2_with fail
        go_meet
        case rel => exact ⟨by simp [*], _, rfl⟩
    case rest =>
    obtain ⟨rfl, kk, rfl⟩ := hcut
    obtain ⟨w7, hw7⟩ : ∃ x, x = wr.drewN kk := ⟨_, rfl⟩
    rw [← hw7]
    have hu7 : Upd [] wr w7 := by rw [hw7]; exact (Upd.refl _ _).drewN _
    have X7 := HX.out.keep hu7
    have H6' := H6.out.upd hu7 (by simp)
    have hx7 := X7.h3
    rw [← HNW.out, ← HNF1.out] at hx7
    clear p0 p4 p5 p6 p7 p8 p13 p14 pfz hw7 t68
    have r6 := hx7.cell 6
    have r7 := hx7.cell 7
    have r13 := hx7.cell 13
    have r14 := hx7.cell 14
    simp [C.rcells] at r6 r7 r13 r14
    have rfz := hx7.frozen
    have n6 : b ∉ oo1 := X7.h6.ne_blk X7.h3 (by decide)
    have l6 : ∀ k ∈ oo1, k < w7.heap.size := H6'.lt
    have HX7 := Lib.hid X7
    rw [← HNO1.out] at X7
    have HX7b := Lib.hid X7
    clear X7 hx7 hu7
    by_cases t9 : no1 = 0
    · by_cases t10 : c1.owed = true
      · have HO : Hid (C.outEnd (c1, l1) = ({ c1 with again := false, owed := false }, l1 ++ [⟨c1.sent, c1.came, ByteArray.empty⟩])) := by
          show _ = _
          unfold C.outEnd
          have : l1 = [] := List.eq_nil_of_length_eq_zero (by rw [← HNO1.out]; exact t9)
          rw [if_pos ⟨this, t10⟩]
        rw [t10] at r13
        have hn9 : ((no1 : Int) == 0) = true := by simp [t9]
        go_wp2_with fail
        have hcells : ∀ W, Upd oo1 w7 W → W.cell? ⟨b, 6, none⟩ = some (.int .i64 c1.sent) ∧ W.cell? ⟨b, 7, none⟩ = some (.int .i64 c1.came) :=
          fun W hu => ⟨(hu.cell (cell_lt' r6) n6).trans r6, (hu.cell (cell_lt' r7) n6).trans r7⟩
        refine wp_region_facts (.grow 11 12 60 3 w7.heap.size (.slice ao1 no1 capo1) no1 ((items l1)) oo1 (no1 + 1) ((items l1) ++ [.int .i64 c1.sent, .int .i64 c1.came, .string ⟨#[]⟩])) (H6') [.is (.slice ao1 no1 capo1), .is ((.pointer (some ⟨b, 0, none⟩))), .is ((.pointer (some ⟨b, 0, none⟩))), .is ((.pointer (some ⟨b, 6, none⟩))), .is (.int .i64 c1.sent), .is ((.pointer (some ⟨b, 0, none⟩))), .is ((.pointer (some ⟨b, 0, none⟩))), .is ((.pointer (some ⟨b, 7, none⟩))), .is (.int .i64 c1.came), .is (.agg #[.int .i64 c1.sent, .int .i64 c1.came, .string ⟨#[]⟩]), .made (w7.heap.size) (by exact l6) 1 60 #[.int .i64 c1.sent, .int .i64 c1.came, .string ⟨#[]⟩], .any, .any] (by kernel_rfl) (by kernel_rfl) (by kernel_rfl) (by kernel_rfl) ?_ ?_
        · refine Steps.cons ?_ (Steps.cons ?_ (Steps.cons ?_ (Steps.cons ?_ (Steps.cons ?_ (Steps.cons ?_ (Steps.cons ?_ (Steps.cons ?_ (Steps.cons ?_ (Steps.cons ?_ (Steps.cons ?_ (Steps.cons ?_ (Steps.cons ?_ Steps.nil))))))))))))
          · refine step_is _ rfl ⟨_, rfl⟩ rfl (fun _ _ => trivial) ?_
            intro a W hi hF hD
            have hu := hi.upd
            have e3 : a.tmps[3]?.getD undef = _ := (ev a 3).symm.trans (hF 3 (by kernel_rfl))
            clear hF hD
            have hc := hcells W hu
            go_simp
          · refine step_is _ rfl ⟨_, rfl⟩ rfl (fun _ _ => trivial) ?_
            intro a W hi hF hD
            have hu := hi.upd
            have e0 : a.tmps[0]?.getD undef = _ := (ev a 0).symm.trans (hF 0 (by kernel_rfl))
            clear hF hD
            have hc := hcells W hu
            go_simp
          · refine step_is _ rfl ⟨_, rfl⟩ rfl (fun _ _ => trivial) ?_
            intro a W hi hF hD
            have hu := hi.upd
            have e141 : a.tmps[141]?.getD undef = (.pointer (some ⟨b, 0, none⟩)) := (ev a 141).symm.trans (hD _ (Array.mem_of_getElem? (i := 0) rfl) rfl).1
            clear hF hD
            have hc := hcells W hu
            go_simp
          · refine step_is _ rfl ⟨_, rfl⟩ rfl (fun _ _ => trivial) ?_
            intro a W hi hF hD
            have hu := hi.upd
            have e142 : a.tmps[142]?.getD undef = (.pointer (some ⟨b, 0, none⟩)) := (ev a 142).symm.trans (hD _ (Array.mem_of_getElem? (i := 0) rfl) rfl).1
            clear hF hD
            have hc := hcells W hu
            go_simp
          · refine step_is _ rfl ⟨_, rfl⟩ rfl (fun _ _ => trivial) ?_
            intro a W hi hF hD
            have hu := hi.upd
            have e143 : a.tmps[143]?.getD undef = (.pointer (some ⟨b, 6, none⟩)) := (ev a 143).symm.trans (hD _ (Array.mem_of_getElem? (i := 0) rfl) rfl).1
            clear hF hD
            have hc := hcells W hu
            go_simp
          · refine step_is _ rfl ⟨_, rfl⟩ rfl (fun _ _ => trivial) ?_
            intro a W hi hF hD
            have hu := hi.upd
            have e0 : a.tmps[0]?.getD undef = _ := (ev a 0).symm.trans (hF 0 (by kernel_rfl))
            clear hF hD
            have hc := hcells W hu
            go_simp
          · refine step_is _ rfl ⟨_, rfl⟩ rfl (fun _ _ => trivial) ?_
            intro a W hi hF hD
            have hu := hi.upd
            have e145 : a.tmps[145]?.getD undef = (.pointer (some ⟨b, 0, none⟩)) := (ev a 145).symm.trans (hD _ (Array.mem_of_getElem? (i := 0) rfl) rfl).1
            clear hF hD
            have hc := hcells W hu
            go_simp
          · refine step_is _ rfl ⟨_, rfl⟩ rfl (fun _ _ => trivial) ?_
            intro a W hi hF hD
            have hu := hi.upd
            have e146 : a.tmps[146]?.getD undef = (.pointer (some ⟨b, 0, none⟩)) := (ev a 146).symm.trans (hD _ (Array.mem_of_getElem? (i := 0) rfl) rfl).1
            clear hF hD
            have hc := hcells W hu
            go_simp
          · refine step_is _ rfl ⟨_, rfl⟩ rfl (fun _ _ => trivial) ?_
            intro a W hi hF hD
            have hu := hi.upd
            have e147 : a.tmps[147]?.getD undef = (.pointer (some ⟨b, 7, none⟩)) := (ev a 147).symm.trans (hD _ (Array.mem_of_getElem? (i := 0) rfl) rfl).1
            clear hF hD
            have hc := hcells W hu
            go_simp
          · refine step_is _ rfl ⟨_, rfl⟩ rfl (fun _ _ => trivial) ?_
            intro a W hi hF hD
            have hu := hi.upd
            have e144 : a.tmps[144]?.getD undef = .int .i64 c1.sent := (ev a 144).symm.trans (hD _ (Array.mem_of_getElem? (i := 0) rfl) rfl).1
            have e148 : a.tmps[148]?.getD undef = .int .i64 c1.came := (ev a 148).symm.trans (hD _ (Array.mem_of_getElem? (i := 1) rfl) rfl).1
            clear hF hD
            have hc := hcells W hu
            go_simp
          · refine step_run rfl (fun _ _ => trivial) ?_
            intro a W hi hF hD
            have hu := hi.upd
            have e149 : a.tmps[149]?.getD undef = .agg #[.int .i64 c1.sent, .int .i64 c1.came, .string ⟨#[]⟩] := (ev a 149).symm.trans (hD _ (Array.mem_of_getElem? (i := 0) rfl) rfl).1
            clear hF hD
            have hc := hcells W hu
            exact ⟨_, _, by (go_simp; first | done | rfl | exact ⟨rfl, rfl⟩), (Upd.refl _ _).alloc _, _, hu.size, rfl, Blk.new _ _ _⟩
          · refine step_gen rfl ⟨_, rfl⟩ ?_
            intro a W hi hF hD
            have hu := hi.upd
            have e140 : a.tmps[140]?.getD undef = .slice ao1 no1 capo1 := (ev a 140).symm.trans (hD _ (Array.mem_of_getElem? (i := 0) rfl) rfl).1
            obtain ⟨g150, _, e150, b150⟩ : ∃ g, w7.heap.size ≤ g ∧ a.eval (.tmp 150) = .slice (some ⟨g, 0, none⟩) 1 1 ∧ Blk W g 60 #[.int .i64 c1.sent, .int .i64 c1.came, .string ⟨#[]⟩] := (hD _ (Array.mem_of_getElem? (i := 1) rfl) rfl).1
            rw [ev] at e150
            clear hF hD
            have hc := hcells W hu
            obtain ⟨g, off2, cap2, w2, own2, r1, r2, r3, r4, r5⟩ := run_append_keep (P := Tryz.prog) W 67 67 60 i0 _ 3 32 Tryz.underlying67 hi0 hz0 hz1 hz2 rfl (by decide) (.slice ao1 no1 capo1) no1 ((items l1)) oo1 hi.hold ⟨g150, 0, none⟩ 1 1 [.int .i64 c1.sent, .int .i64 c1.came, .string ⟨#[]⟩] rfl (World.news_of_block b150) (by simp [Value.oneCell']) (by decide) (by simp only [maxLen]; omega) (by omega)
            exact ⟨_, w2, exec_append rfl (by rw [ev]; exact e140) (by rw [ev]; exact e150) r1, Env.grow_set hu r4 r5 ⟨g, off2, cap2, own2, rfl, r2, fun k hk => (r3 k hk).imp id (Nat.le_trans hu.size)⟩⟩
          · refine step_gen rfl ⟨_, rfl⟩ ?_
            intro a W hi hF hD
            have hu := hi.upd
            have d151 := (hD _ (Array.mem_of_getElem? (i := 0) rfl) rfl).2
            clear hF hD
            have hc := hcells W hu
            exact ⟨_, W, by (go_simp; first | done | rfl | exact ⟨rfl, rfl⟩), Env.grow_on hi (by rw [← ev]; exact d151)⟩
        intro vals W hu hv
        have v0 : vals 0 = .slice ao1 no1 capo1 := (hv 0 (by decide)).1
        have v1 : vals 1 = (.pointer (some ⟨b, 0, none⟩)) := (hv 1 (by decide)).1
        have v2 : vals 2 = (.pointer (some ⟨b, 0, none⟩)) := (hv 2 (by decide)).1
        have v3 : vals 3 = (.pointer (some ⟨b, 6, none⟩)) := (hv 3 (by decide)).1
        have v4 : vals 4 = .int .i64 c1.sent := (hv 4 (by decide)).1
        have v5 : vals 5 = (.pointer (some ⟨b, 0, none⟩)) := (hv 5 (by decide)).1
        have v6 : vals 6 = (.pointer (some ⟨b, 0, none⟩)) := (hv 6 (by decide)).1
        have v7 : vals 7 = (.pointer (some ⟨b, 7, none⟩)) := (hv 7 (by decide)).1
        have v8 : vals 8 = .int .i64 c1.came := (hv 8 (by decide)).1
        have v9 : vals 9 = .agg #[.int .i64 c1.sent, .int .i64 c1.came, .string ⟨#[]⟩] := (hv 9 (by decide)).1
        obtain ⟨g10, _, v10, b10⟩ : ∃ g, w7.heap.size ≤ g ∧ vals 10 = .slice (some ⟨g, 0, none⟩) 1 1 ∧ Blk W g 60 #[.int .i64 c1.sent, .int .i64 c1.came, .string ⟨#[]⟩] := (hv 10 (by decide)).1
        have v11 := (hv 11 (by decide)).2
        have v12 := (hv 12 (by decide)).2
        clear hv
        obtain ⟨g, off2, cap2, own2, q12, ho2, hin2⟩ := Env.grow_get 12 rfl v12
        simp only [putAll, Act.put, Nat.zero_add, Nat.reduceAdd, q12, v0, v1, v2, v3, v4, v5, v6, v7, v8, v9, v10, List.setIfInBounds_toArray, List.set_cons_zero, List.set_cons_succ]
        clear v0 v1 v2 v3 v4 v5 v6 v7 v8 v9 v10

        rw [q12] at ho2
        have X8 := HX7.out.said HNO1.out (Upd.refl _ _) (i := ⟨c1.sent, c1.came, ByteArray.empty⟩) ho2 hin2 hu
        have hx8 := X8.h3
        rw [← HNW.out, ← HNF1.out] at hx8
        clear r6 r7 r13 r14 hcells
        have s13 := hx8.cell 13
        have s14 := hx8.cell 14
        simp [C.rcells] at s13 s14
        have sfz := hx8.frozen
        have HX8 := Lib.hid X8
        clear hx8 X8 ho2 hin2 hu
        go_wp2_with fail
        go_ret
        rw [HFI.out, HO.out]
        exact (HX8.out.ended).fin (p := ({ c1 with again := false, owed := false }, l1 ++ [⟨c1.sent, c1.came, ByteArray.empty⟩]))
      · have HO : Hid (C.outEnd (c1, l1) = ({ c1 with again := false, owed := false }, l1)) := by
          show _ = _
          unfold C.outEnd
          rw [if_neg (by simp [t10])]
        have t10' : c1.owed = false := by simpa using t10
        rw [t10'] at r13
        have hn9 : ((no1 : Int) == 0) = true := by simp [t9]
        go_wp2_with fail
        go_ret
        rw [HFI.out, HO.out]
        exact (HX7b.out.ended).fin (p := ({ c1 with again := false, owed := false }, l1))
    · have HO : Hid (C.outEnd (c1, l1) = ({ c1 with again := false, owed := false }, l1)) := by
        show _ = _
        unfold C.outEnd
        rw [if_neg (by rintro ⟨h1, h2⟩; subst h1; exact t9 HNO1.out)]
      have hn9 : ((no1 : Int) == 0) = false := by simp [t9]
      go_wp2_with fail
      go_ret
      rw [HFI.out, HO.out]
      exact (HX7b.out.ended).fin (p := ({ c1 with again := false, owed := false }, l1))
end Go.Proofs.YtdccmlpikjbcaaaGreat
