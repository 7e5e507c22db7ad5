/- The walk of 'Out'. -/
import Derived.Test.YtdccmlpikjbcaaaGreatCtlO
import Derived.Test.YtdccmlpikjbcaaaGreatCtlS
import Derived.Deep.DeepCutAuto
namespace Go.Proofs.YtdccmlpikjbcaaaGreat
open Go.RowKit
set_option maxRecDepth 100000

structure OutX (w0 : World) (b B0 B1 : Nat) (ow0 of0 : List Nat) (c : C) (l : List Item) (vw vf vo : Value) (ow of oo : List Nat) (w : World) : Prop where
  h1 : Blk w B0 24 #[.pointer (some ⟨b, 0, none⟩)]
  h2 : Blk w B1 65 #[vo]
  h3 : Blk w b 81 (c.cells vw vf)
  h4 : Own w 9 1 vw c.waits.length (strs c.waits) ow
  h5 : Own w 9 1 vf c.flies.length (strs c.flies) of
  h6 : Own w 53 3 vo l.length (items l) oo
  h7 : ∀ k, k ∈ ow → k ∉ of
  h8 : ∀ k, k ∈ ow → k ∈ ow0
  h9 : ∀ k, k ∈ of → k ∈ of0 ∨ w0.heap.size ≤ k
  h10 : ∀ k, k ∈ oo → w0.heap.size ≤ k
  h11 : Upd (b :: (ow0 ++ of0)) w0 w
def OutSt (w0 : World) (b B0 B1 : Nat) (ow0 of0 : List Nat) (c : C) (l : List Item) (w : World) : Prop :=
  ∃ vw vf vo ow of oo, OutX w0 b B0 B1 ow0 of0 c l vw vf vo ow of oo w

section
variable {w0 w w' : World} {b B0 B1 : Nat} {ow0 of0 : List Nat} {c : C} {l : List Item} {vw vf vo : Value} {ow of oo : List Nat}
theorem OutX.keep (h : OutX w0 b B0 B1 ow0 of0 c l vw vf vo ow of oo w) (hu : Upd [] w w') : OutX w0 b B0 B1 ow0 of0 c l vw vf vo ow of oo w' :=
  ⟨h.h1.upd hu (by simp), h.h2.upd hu (by simp), h.h3.upd hu (by simp), h.h4.upd hu (by simp), h.h5.upd hu (by simp), h.h6.upd hu (by simp), h.h7, h.h8, h.h9, h.h10, h.h11.trans' hu (by simp)⟩
theorem OutX.said {vo' : Value} {oo' : List Nat} {i : Item} (h : OutX w0 b B0 B1 ow0 of0 c l vw vf vo ow of oo w) (hB1 : w0.heap.size ≤ B1)
    (k1 : Blk w' B1 65 #[vo']) (k2 : Own w' 53 3 vo' (l ++ [i]).length (items (l ++ [i])) oo') (k3 : ∀ k, k ∈ oo' → k ∈ oo ∨ w.heap.size ≤ k) (k4 : Upd (B1 :: oo) w w') :
    OutX w0 b B0 B1 ow0 of0 c (l ++ [i]) vw vf vo' ow of oo' w' := by
  obtain ⟨g1, g2, g3, g4, g5, g6, g7, g8, g9, g10, g11⟩ := h
  have n0 : B0 ∉ B1 :: oo := by
    simp only [List.mem_cons, not_or]; exact ⟨g1.ne_ g2 (by decide), g6.ne_blk g1 (by decide)⟩
  have nb : b ∉ B1 :: oo := by
    simp only [List.mem_cons, not_or]; exact ⟨g3.ne_ g2 (by decide), g6.ne_blk g3 (by decide)⟩
  have nn : ∀ {v n xs o}, Own w 9 1 v n xs o → ∀ k, k ∈ o → k ∉ B1 :: oo := by
    intro v n xs o ho k hk
    simp only [List.mem_cons, not_or]
    exact ⟨fun e => ho.ne_blk g2 (by decide) (e ▸ hk), fun e => (ho.ne_own g6 (by decide)) k hk e⟩
  refine ⟨g1.upd k4 n0, k1, g3.upd k4 nb, g4.upd k4 (nn g4), g5.upd k4 (nn g5), k2, g7, g8, g9, ?_, g11.trans' k4 ?_⟩
  · intro k hk
    rcases k3 k hk with h | h
    · exact g10 k h
    · have := g11.size; omega
  · intro x hx
    simp only [List.mem_cons] at hx
    rcases hx with rfl | hx
    · exact .inr hB1
    · exact .inr (g10 x hx)
theorem OutX.store {i : Nat} {v : Value} {c' : C} {vw' vf' : Value} (h : OutX w0 b B0 B1 ow0 of0 c l vw vf vo ow of oo w) (hc : (c.cells vw vf).setIfInBounds i v = c'.cells vw' vf')
    (hw : Own w 9 1 vw' c'.waits.length (strs c'.waits) ow) (hf : Own w 9 1 vf' c'.flies.length (strs c'.flies) of) :
    OutX w0 b B0 B1 ow0 of0 c' l vw' vf' vo ow of oo (w.setCell ⟨b, i, none⟩ v) := by
  obtain ⟨g1, g2, g3, g4, g5, g6, g7, g8, g9, g10, g11⟩ := h
  exact ⟨g1.far v (g1.ne_ g3 (by decide)), g2.far v (g2.ne_ g3 (by decide)), Blk.of_eq (g3.set_ i v) hc, hw.setCell v (hw.ne_blk g3 (by decide)), hf.setCell v (hf.ne_blk g3 (by decide)),
    g6.setCell v (g6.ne_blk g3 (by decide)), g7, g8, g9, g10, g11.setCell v (by simp)⟩
theorem OutX.flew {v : Value} {c' : C} {of' : List Nat} (h : OutX w0 b B0 B1 ow0 of0 c l vw vf vo ow of oo w) (hu : Upd of w w')
    (hf : Own w' 9 1 v c'.flies.length (strs c'.flies) of') (hi : ∀ k, k ∈ of' → k ∈ of ∨ w.heap.size ≤ k) (hwt : c'.waits = c.waits) (hc : (c.cells vw vf).setIfInBounds 7 v = c'.cells vw v) :
    OutX w0 b B0 B1 ow0 of0 c' l vw v vo ow of' oo (w'.setCell ⟨b, 7, none⟩ v) := by
  obtain ⟨g1, g2, g3, g4, g5, g6, g7, g8, g9, g10, g11⟩ := h
  have k3 := g3.upd hu (g5.ne_blk g3 (by decide))
  have k4 : Own w' 9 1 vw c'.waits.length (strs c'.waits) ow := by rw [hwt]; exact g4.upd hu g7
  refine ⟨(g1.upd hu (g5.ne_blk g1 (by decide))).far v (g1.ne_ g3 (by decide)), (g2.upd hu (g5.ne_blk g2 (by decide))).far v (g2.ne_ g3 (by decide)), Blk.of_eq (k3.set_ 7 v) hc,
    k4.setCell v (k4.ne_blk k3 (by decide)), hf.setCell v (hf.ne_blk k3 (by decide)), ?_, ?_, g8, ?_, g10, ?_⟩
  · have k6 := g6.upd hu (g6.ne_own g5 (by decide))
    exact k6.setCell v (k6.ne_blk k3 (by decide))
  · intro k hk hk2
    rcases hi k hk2 with h1 | h1
    · exact g7 k hk h1
    · have := g4.lt k hk; omega
  · intro k hk
    rcases hi k hk with h1 | h1
    · exact g9 k h1
    · have := g11.size; omega
  · refine Upd.setCell v (g11.trans' hu ?_) (by simp)
    intro x hx
    rcases g9 x hx with h1 | h1
    · left; simp [h1]
    · exact .inr h1
end

theorem C.fly_ok {c : C} (h : c.ok) (hc : 0 < c.waits.length ∧ (c.flies.length : Int) < min c.room c.window) : c.fly.ok := by
  obtain ⟨h1, h2, h3, h4, h5, h6, h7, h8, h9, h10, h11, h12, h13, h14, h15, h16, h17, h18, h19, h20, h21, h22, h23, h24, h25, h26⟩ := h
  constructor <;> (try simp [C.fly]) <;> first | omega | assumption
theorem C.outLoop_stop (m : Nat) {c : C} {l : List Item} (h : ¬ (0 < c.waits.length ∧ (c.flies.length : Int) < min c.room c.window)) : C.outLoop m (c, l) = (c, l) := by
  cases m with
  | zero => rfl
  | succ m => rw [C.outLoop, if_neg h]
theorem C.outAgain_len {c : C} (h : c.ok) : c.outAgain.length + c.waits.length ≤ 41 := by
  have := h.l1
  have := h.q2
  unfold C.outAgain
  split <;> simp <;> omega

structure OutEnd (w : World) (b : Nat) (ow0 of0 : List Nat) (p : C × List Item) (e : Ending) (w' : World) : Prop where
  ex : ∃ vw vf v ow of oo, e = .returned v ∧ Blk w' b 81 (p.1.cells vw vf) ∧
    Own w' 9 1 vw p.1.waits.length (strs p.1.waits) ow ∧ Own w' 9 1 vf p.1.flies.length (strs p.1.flies) of ∧ Own w' 53 3 v p.2.length (items p.2) oo ∧
    (∀ k, k ∈ ow → k ∉ of) ∧ (∀ k, k ∈ ow → k ∈ ow0) ∧ (∀ k, k ∈ of → k ∈ of0 ∨ w.heap.size ≤ k) ∧ (∀ k, k ∈ oo → w.heap.size ≤ k) ∧ Upd (b :: (ow0 ++ of0)) w w'

set_option maxRecDepth 100000 in
set_option maxHeartbeats 4000000 in
theorem out_any (b : Nat) (c : C) (vw vf : Value) (ow of : List Nat) (w : World) (hk : c.ok) (hb : Blk w b 81 (c.cells vw vf))
    (how : Own w 9 1 vw c.waits.length (strs c.waits) ow) (hof : Own w 9 1 vf c.flies.length (strs c.flies) of) (hd : ∀ k, k ∈ ow → k ∉ of) :
    Calls Tryz.prog 18 #[.pointer (some ⟨b, 0, none⟩)] w (OutEnd w b ow of c.out) := by
  have hm := hk.d1
  have hblt := hb.lt
  by_cases t1 : c.dead = true
  · have hc : c.out = (c, []) := by unfold C.out; rw [if_pos t1]
    have HC := Lib.hid hc
    clear hc
    go_enter Tryz.func18, Tryz.ntmps18
    go_wp2_with (go_at_call 22; refine (dead_any b c vw vf _ (hb.alloc _)).mono ?_; rintro e w' ⟨rfl, rfl⟩)
    go_ret
    rw [HC.out]
    exact ⟨_, _, _, ow, of, [], rfl, hb.alloc _, how.alloc _, hof.alloc _, Own.nil _ _ _, hd, fun k hk => hk, fun k hk => .inl hk, by simp, (Upd.refl _ _).alloc _⟩
  have t1' : c.dead = false := by simpa using t1
  have hc : c.out = C.outEnd (C.outLoop c.waits.length (c, c.outAgain)) := by unfold C.out; rw [if_neg t1]
  have HC := Lib.hid hc
  clear hc t1
  have hst : ∀ x, OutX w b w.heap.size (w.heap.size + 1) ow of c [] vw vf (.slice none 0 0) ow of [] (((w.alloc (.cells #[.pointer (some ⟨b, 0, none⟩)] 24)).alloc (.cells #[.slice none 0 0] 65)).drewN x) := by
    intro x
    refine ⟨((Blk.new _ _ _).alloc _).drewN _, ?_, ((hb.alloc _).alloc _).drewN _, ((how.alloc _).alloc _).drewN _, ((hof.alloc _).alloc _).drewN _, Own.nil _ _ _, hd, fun k hk => hk, fun k hk => .inl hk, by simp, (((Upd.refl _ _).alloc _).alloc _).drewN _⟩
    have := (Blk.new (w.alloc (.cells #[.pointer (some ⟨b, 0, none⟩)] 24)) 65 #[.slice none 0 0])
    simp only [World.size_alloc] at this
    exact this
  obtain ⟨aw, capw, rfl, hcapw, hmxw⟩ := how.shape
  obtain ⟨af, capf, rfl, hcapf, hmxf⟩ := hof.shape
  obtain ⟨nw, hnw⟩ : ∃ n, n = c.waits.length := ⟨_, rfl⟩
  obtain ⟨nf, hnf⟩ : ∃ n, n = c.flies.length := ⟨_, rfl⟩
  have g7 := hb.cell 7
  have g13 := hb.cell 13
  simp [C.cells] at g7 g13
  rw [← hnf] at g7
  have HB := Lib.hid hb
  have HK := Lib.hid hk
  have HW := Lib.hid how
  have HF := Lib.hid hof
  have HD := Lib.hid hd
  have HS := Lib.hid hst
  have HNF := Lib.hid hnf
  have l2 := hk.l2
  rw [← hnf] at l2
  have s1 := hk.s1
  have s2 := hk.s2
  have f1 : 0 ≤ c.first ∧ c.first < 65536 := by unfold C.first; omega
  have cm : 0 ≤ c.came ∧ c.came < 65536 := ⟨hk.c1, hk.c2⟩
  clear hb hk how hof hd hst hnf hnw
  obtain ⟨tb, t2⟩ : ∃ tb : Bool, Hid ((tb = true ∧ c.again = true ∧ 0 < nf) ∨ (tb = false ∧ c.again = true ∧ nf = 0) ∨ (tb = false ∧ c.again = false)) := by
    rcases Bool.eq_false_or_eq_true c.again with h | h
    · by_cases h2 : 0 < nf
      · exact ⟨true, .inl ⟨rfl, h, h2⟩⟩
      · exact ⟨false, .inr (.inl ⟨rfl, h, by omega⟩)⟩
    · exact ⟨false, .inr (.inr ⟨rfl, h⟩)⟩
  go_enter Tryz.func18, Tryz.ntmps18
  go_upto_region 5 with (go_at_call 22; refine (dead_any b c _ _ _ (HB.out.alloc _)).mono ?_; rintro e w' ⟨rfl, rfl⟩)
  refine gen_world (fun W => OutX w b w.heap.size (w.heap.size + 1) ow of c [] _ _ (.slice none 0 0) ow of [] W) (HS.out 0) ?_
  intro W X
  have q1 := X.h1.cell 0
  have q7 := X.h3.cell 7
  have q13 := X.h3.cell 13
  simp [C.cells] at q1 q7 q13
  rw [← HNF.out] at q7
  have HX := Lib.hid X
  clear X g7 g13 HS
  go_cut [20] (fun s20 V => s20 = .bool tb ∧ V = W)
  case first =>
    rcases t2.out with ⟨rfl, t2a, t2b⟩ | ⟨rfl, t2a, rfl⟩ | ⟨rfl, t2a⟩
    all_goals
      go_wp2
      go_meet
      case rel => simp [*]
  case rest =>
  obtain ⟨rfl, rfl⟩ := hcut
  go_upto_if 20 with (fail)
  go_cut [] (fun V => OutSt w b w.heap.size (w.heap.size + 1) ow of c c.outAgain V)
  case first =>
    rcases t2.out with ⟨rfl, t2a, t2b⟩ | ⟨rfl, t2a, rfl⟩ | ⟨rfl, t2a⟩
    · obtain ⟨gf, off, cap2, hv, hof1, _, _, hcell⟩ := HX.out.h5.form (by have := HNF.out; omega)
      injection hv with hv1 _ hv3
      subst hv1 hv3
      have q0 : wc.cell? ⟨gf, off, none⟩ = some (.string (hd c.flies)) := by
        have h1 := hcell 0 (.string (hd c.flies)) (by
          rw [strs_get]
          have := HNF.out
          cases hfl : c.flies with
          | nil => rw [hfl] at this; simp at this; omega
          | cons a l => rfl)
        simpa using h1
      have hgf : gf ≠ w.heap.size + 1 := by
        have h1 := HF.out.lt gf (by simp [hof1])
        omega
      clear hcell hof1
      go_wp2
      go_region_held3 (fun U => U.cell? ⟨w.heap.size, 0, none⟩ = some (.pointer (some ⟨b, 0, none⟩)) ∧ U.cell? ⟨b, 7, none⟩ = some (.slice (some ⟨gf, off, none⟩) nf capf) ∧ U.cell? ⟨gf, off, none⟩ = some (.string (hd c.flies))) (first | go_keep) (first
        | (go_at_call 38; refine (first_any b c _ _ nf capf _ HNF.out (by omega) (by rw [HNF.out]; exact HX.out.h3)).mono ?_; rintro e w' ⟨rfl, k, rfl⟩)
        | (go_at_call 37; refine (say_any b w.heap.size (w.heap.size + 1) c _ _ (.slice none 0 0) [] [] _ _ _ f1 cm (by simp) (by exact HX.out.h1) (by exact HX.out.h2) (by exact HX.out.h3) (by exact HX.out.h6)).mono ?_; rintro e w3 ⟨vo3, oo3, rfl, k1, k2, k3, k4⟩; have p1 := (k4.cell (p := ⟨w.heap.size, 0, none⟩) (by exact HX.out.h1.lt) (by simp)).trans (by exact q1); have p2 := (k4.cell (p := ⟨b, 7, none⟩) (by exact HX.out.h3.lt) (by simp; omega)).trans (by simpa using q7); have p3 := (k4.cell (p := ⟨gf, off, none⟩) (by exact World.block_lt_of_cell? _ _ q0) (by simp; omega)).trans (by exact q0)))
      go_wp2
      go_meet
      case rel =>
        have h1 : c.outAgain = [] ++ [⟨c.first, c.came, hd c.flies⟩] := by unfold C.outAgain; rw [if_pos ⟨t2a, by rw [← HNF.out]; exact t2b⟩]; rfl
        rw [h1]
        exact ⟨_, _, _, _, _, _, OutX.said (HX.out.keep ((Upd.refl _ _).drewN _)) (by omega) k1 k2 k3 k4⟩
    all_goals
      have h1 : Hid (c.outAgain = []) := by show _ = _; unfold C.outAgain; rw [if_neg (by rw [← HNF.out]; simp [t2a])]
      go_wp2
      go_meet
      case rel =>
        rw [h1.out]
        exact ⟨_, _, _, _, _, _, HX.out⟩
  case rest =>
  go_wp2
  clear l2 s1 s2 f1 cm q1 q7 q13 t2
  go_loopg [] c.waits.length (fun m wr => ∃ c1 l1, c1.ok ∧ C.outLoop m (c1, l1) = C.outLoop c.waits.length (c, c.outAgain) ∧ c1.waits.length ≤ m ∧ l1.length + m ≤ 41 ∧ OutSt w b w.heap.size (w.heap.size + 1) ow of c1 l1 wr)
  case atStart => exact ⟨c, c.outAgain, HK.out, rfl, Nat.le_refl _, C.outAgain_len HK.out, hcut⟩
  case round =>
    obtain ⟨c1, l1, hk1, he1, hm1, hl1, vw1, vf1, vo1, ow1, of1, oo1, X⟩ := hrel
    have HCO := HC
    clear HB HW HF HD HNF HC HX hcut
    obtain ⟨aw1, capw1, rfl, hcw1, hxw1⟩ := X.h4.shape
    obtain ⟨af1, capf1, rfl, hcf1, hxf1⟩ := X.h5.shape
    have XW := Lib.hid X.h4
    have XF := Lib.hid X.h5
    have XB := Lib.hid X.h3
    obtain ⟨nw, hnw⟩ : ∃ n, n = c1.waits.length := ⟨_, rfl⟩
    obtain ⟨nf1, hnf1⟩ : ∃ n, n = c1.flies.length := ⟨_, rfl⟩
    have q0 := X.h1.cell 0
    have p0 := X.h3.cell 0
    have p6 := X.h3.cell 6
    have p7 := X.h3.cell 7
    have p8 := X.h3.cell 8
    have pf := X.h3.frozen
    simp [C.cells] at q0 p0 p6 p7 p8
    rw [← hnw] at p6 hcw1 hm1
    rw [← hnf1] at p7 hcf1
    have l2 := hk1.l2
    rw [← hnf1] at l2
    have HX := Lib.hid X
    have HNW := Lib.hid hnw
    have HNF1 := Lib.hid hnf1
    have HK1 := Lib.hid hk1
    have HE := Lib.hid he1
    have ltb := X.h3.lt
    have lt0 := X.h1.lt
    obtain ⟨MN, hMN, hM1⟩ : ∃ x : Int, (if c1.window < c1.room then c1.window else c1.room) = x ∧ Hid (x = min c1.room c1.window) := ⟨_, rfl, by show _ = _; split <;> omega⟩
    have MN2 : MN ≤ 64 := by have := hM1.out; have := hk1.w2; omega
    clear X hnw hnf1 hk1 he1
    by_cases t67 : 0 < nw ∧ (nf1 : Int) < MN
    · obtain ⟨t6, t7⟩ := t67
      obtain ⟨gw, offw, capw2, hvw, hoeq, _, _, hcell⟩ := XW.out.form (by have := HNW.out; omega)
      injection hvw with hv1 _ hv3
      subst hv1 hv3
      have hgw : gw < wr.heap.size := XW.out.lt gw (by simp [hoeq])
      have hgf : gw ∉ of1 := HX.out.h7 gw (by simp [hoeq])
      have pw : wr.cell? ⟨gw, offw, none⟩ = some (.string (hd c1.waits)) := by
        have h1 := hcell 0 (.string (hd c1.waits)) (by
          rw [strs_get]
          have := HNW.out
          cases hfl : c1.waits with
          | nil => rw [hfl] at this; simp at this; omega
          | cons a l => rfl)
        simpa using h1
      clear hcell hoeq
      · have HC : Hid (Own wr 9 1 (.slice (if capw1 = 1 then some ⟨gw, offw, none⟩ else some ⟨gw, offw + 1, none⟩) (nw - 1) (capw1 - 1)) c1.waits.tail.length (strs c1.waits.tail) ow1) := by
          have h1 := XW.out.cut (k := 1) (by have := HNW.out; omega)
          simp only [Nat.one_mul] at h1
          rw [List.length_tail]
          have h2 : (strs c1.waits).drop 1 = strs c1.waits.tail := by simp [strs]
          rw [h2, ← HNW.out] at h1
          rw [← HNW.out]
          exact h1
        have HFI : Hid (0 < c1.waits.length ∧ (c1.flies.length : Int) < min c1.room c1.window) := by
          refine ⟨by rw [← HNW.out]; exact t6, by rw [← HNF1.out, ← hM1.out]; exact t7⟩
        go_wp2
        go_quiet (fail)
        go_wp2
        go_cut [] (fun V => ∃ vw2, OutX w b w.heap.size (w.heap.size + 1) ow of { c1 with waits := c1.waits.tail } l1 vw2 (.slice af1 c1.flies.length capf1) vo1 ow1 of1 oo1 V)
        case first =>
          by_cases t8 : capw1 = 1
          all_goals (try subst t8)
          all_goals
            go_region
            go_wp2
            go_meet
            case rel =>
              refine ⟨_, (HX.out.keep ((Upd.refl _ _).drewN _)).store (i := 6) (c' := { c1 with waits := c1.waits.tail }) rfl ?_ (by exact HX.out.h5)⟩
              first
              | exact HC.out
              | (have h3 := HC.out
                 rw [if_neg ‹_›] at h3
                 exact h3)
              | (have h3 := HC.out
                 rw [show nw - 1 = 0 by omega] at h3
                 simp only [↓reduceIte] at h3
                 exact h3)
        case rest =>
        obtain ⟨vw2, XA⟩ := hcut
        clear p0 p6 p7 p8 pf pw hgf hgw q0 HX XW XF XB HC
        have q0 := XA.h1.cell 0
        have p7 := XA.h3.cell 7
        have p7f := XA.h3.frozen 7
        simp [C.cells] at q0 p7
        rw [← HNF1.out] at p7
        have ltb := XA.h3.lt
        have lt0 := XA.h1.lt
        have HX := Lib.hid XA
        have hn7 : b ∉ of1 := XA.h5.ne_blk XA.h3 (by decide)
        have hn0 : w.heap.size ∉ of1 := XA.h5.ne_blk XA.h1 (by decide)
        have HO : Hid (Own wc 9 1 (.slice af1 nf1 capf1) nf1 (strs c1.flies) of1) := by rw [HNF1.out]; exact XA.h5
        clear XA
        obtain ⟨i0, hi, hz0, hz1, hz2⟩ := info_parts info_str
        go_wp2
        go_cut [] (fun V => ∃ vf2 of2, OutX w b w.heap.size (w.heap.size + 1) ow of { c1 with waits := c1.waits.tail, flies := c1.flies ++ [hd c1.waits] } l1 vw2 vf2 vo1 ow1 of2 oo1 V)
        case first =>
          go_region_law (refine step_append_Own _ rfl (.tmp 72) (.tmp 74) 57 rfl 9 i0 (.string ⟨#[]⟩) 1 16 Tryz.underlying57 hi hz0 hz1 hz2 rfl (by decide) (.slice af1 nf1 capf1) nf1 (strs c1.flies) of1 (by simp [Act.eval]) (Own.alloc _ (by exact HO.out)) ⟨wc.heap.size, 0, none⟩ 1 1 [.string (hd c1.waits)] (by simp [Act.eval]) rfl (World.news_of_block (Blk.new _ _ _)) (by simp [Value.oneCell']) (by decide) (by simp only [maxLen]; omega) (by omega) ?_; intro g2 off2 cap2 w2 of2 ho2 hin2 hu2; have hk7 := (hu2.cell (p := ⟨b, 7, none⟩) (by simp; omega) hn7); have hf7 := (hu2.frozen (p := ⟨b, 7, none⟩) (by simp; omega) hn7); have hk8 := (Blk.alloc (.cells #[.string (hd c1.waits)] 9) HX.out.h3).cell 7; have hf8 := (Blk.alloc (.cells #[.string (hd c1.waits)] 9) HX.out.h3).frozen 7; simp [C.cells] at hk8; have hk9 := hk7.trans hk8; have hf9 := hf7.trans hf8; have hk0 := (hu2.cell (p := ⟨w.heap.size, 0, none⟩) (by simp; omega) hn0).trans ((Blk.alloc (.cells #[.string (hd c1.waits)] 9) HX.out.h1).cell 0); simp at hk0; clear hk7 hk8 hf7 hf8)
          all_goals
            go_wp2
            go_meet
            case rel =>
              refine ⟨_, _, OutX.flew (c' := { c1 with waits := c1.waits.tail, flies := c1.flies ++ [hd c1.waits] }) (HX.out.keep (((Upd.refl _ _).alloc _).drew)) hu2 ?_ hin2 rfl rfl⟩
              have h2 : (c1.flies ++ [hd c1.waits]).length = nf1 + 1 := by rw [List.length_append, HNF1.out]; rfl
              simp only [h2]
              simpa [strs] using ho2
        case rest =>
        obtain ⟨vf2, of2, XA⟩ := hcut
        clear p7 p7f q0 ltb lt0 HX hn7 hn0 HO
        have HX := Lib.hid XA
        have q0 := XA.h1.cell 0
        have p4 := XA.h3.cell 4
        simp [C.cells] at q0 p4
        have s1 := HK1.out.s1
        have s2 := HK1.out.s2
        have cm : 0 ≤ c1.came ∧ c1.came < 65536 := ⟨HK1.out.c1, HK1.out.c2⟩
        clear XA
        go_wp2_with (go_at_call 37; fail)
        refine (say_any b w.heap.size (w.heap.size + 1) _ _ _ vo1 l1 oo1 c1.sent (hd c1.waits) _ ⟨s1, s2⟩ cm (by omega) HX.out.h1 HX.out.h2 HX.out.h3 HX.out.h6).mono ?_
        rintro e w3 ⟨vo3, oo3, rfl, k1, k2, k3, k4⟩
        have X3 := HX.out.said (by omega) k1 k2 k3 k4
        clear k1 k2 k3 k4 q0 p4
        have q0 := X3.h1.cell 0
        have p4 := X3.h3.cell 4
        have p12 := X3.h3.cell 12
        have pf := X3.h3.frozen
        simp [C.cells] at q0 p4 p12
        have HX3 := Lib.hid X3
        clear X3
        go_wp2
        go_roundg (gk - 1)
        case rel =>
          refine ⟨c1.fly, l1 ++ [c1.flyItem], C.fly_ok HK1.out HFI.out, ?_, ?_, ?_, _, _, _, _, _, _,
            OutX.store (i := 12) (v := .int .i64 0) (c' := c1.fly) (OutX.store (i := 4) (c' := { c1 with waits := c1.waits.tail, flies := c1.flies ++ [hd c1.waits], sent := (c1.sent + 1) % 65536 }) HX3.out ?_ HX3.out.h4 HX3.out.h5) rfl ?_ ?_⟩
          · have h1 := HE.out
            rw [show gk = (gk - 1) + 1 by omega, C.outLoop, if_pos HFI.out] at h1
            exact h1
          · simp only [C.fly, List.length_tail]; have := HNW.out; omega
          · simp only [List.length_append, List.length_singleton]; omega
          · simp [C.cells, wrap_u16]
          · exact HX3.out.h4.setCell _ (HX3.out.h4.ne_blk HX3.out.h3 (by decide))
          · exact HX3.out.h5.setCell _ (HX3.out.h5.ne_blk HX3.out.h3 (by decide))
        case measure => omega
    have HFI : Hid (c.out = C.outEnd (c1, l1)) := by
      have h1 := HE.out
      rw [C.outLoop_stop gk (by rintro ⟨h2, h3⟩; rw [← HNW.out] at h2; rw [← HNF1.out, ← hM1.out] at h3; omega)] at h1
      show _ = _
      rw [HCO.out, ← h1]
    go_wp2
    go_cut [53] (fun s V => s = .bool false ∧ OutX w b w.heap.size (w.heap.size + 1) ow of c1 l1 (.slice aw1 c1.waits.length capw1) (.slice af1 c1.flies.length capf1) vo1 ow1 of1 oo1 V)
    case first =>
      by_cases t6 : 0 < nw
      · have t7 : MN ≤ (nf1 : Int) := by omega
        go_quiet (fail)
        go_wp2
        go_meet
        case rel => exact ⟨by simp; omega, HX.out.keep ((Upd.refl _ _).drewN _)⟩
      · obtain rfl : nw = 0 := by omega
        go_quiet (fail)
        go_wp2
        go_meet
        case rel => exact ⟨by simp, HX.out.keep ((Upd.refl _ _).drewN _)⟩
    case rest =>
    obtain ⟨rfl, X⟩ := hcut
    obtain ⟨aO, capO, rfl, _, _⟩ := X.h6.shape
    obtain ⟨nO, hnO⟩ : ∃ n, n = l1.length := ⟨_, rfl⟩
    clear q0 p0 p6 p7 p8 pf ltb lt0 t67 HX
    have q0 := X.h1.cell 0
    have qO := X.h2.cell 0
    have p13 := X.h3.cell 13
    have p14 := X.h3.cell 14
    have p4 := X.h3.cell 4
    have pf := X.h3.frozen
    have HX := Lib.hid X
    simp [C.cells] at q0 qO p13 p14 p4
    rw [← hnO] at qO
    have HNO := Lib.hid hnO
    have s1 := HK1.out.s1
    have s2 := HK1.out.s2
    have cm : 0 ≤ c1.came ∧ c1.came < 65536 := ⟨HK1.out.c1, HK1.out.c2⟩
    have lO : nO ≤ 41 := by omega
    clear hnO hl1 X
    obtain ⟨tb, t2⟩ : ∃ tb : Bool, Hid ((tb = true ∧ nO = 0 ∧ c1.owed = true) ∨ (tb = false ∧ nO = 0 ∧ c1.owed = false) ∨ (tb = false ∧ 0 < nO)) := by
      by_cases h2 : 0 < nO
      · exact ⟨false, .inr (.inr ⟨rfl, h2⟩)⟩
      · rcases Bool.eq_false_or_eq_true c1.owed with h | h
        · exact ⟨true, .inl ⟨rfl, by omega, h⟩⟩
        · exact ⟨false, .inr (.inl ⟨rfl, by omega, h⟩)⟩
    go_upto_region 14 with (fail)
    go_cut [103] (fun s V => s = .bool tb ∧ V = wc)
    case first =>
      rcases t2.out with ⟨rfl, rfl, t2b⟩ | ⟨rfl, rfl, t2b⟩ | ⟨rfl, t2b⟩
      all_goals
        go_wp2
        go_meet
        case rel => simp [*]
    case rest =>
    obtain ⟨rfl, rfl⟩ := hcut
    go_upto_if 103 with (fail)
    go_cut [] (fun V => ∃ vo oo, OutX w b w.heap.size (w.heap.size + 1) ow of c1 (C.outEnd (c1, l1)).2 (.slice aw1 c1.waits.length capw1) (.slice af1 c1.flies.length capf1) vo ow1 of1 oo V)
    case first =>
      rcases t2.out with ⟨rfl, rfl, t2b⟩ | ⟨rfl, rfl, h2⟩ | ⟨rfl, h2⟩
      · have h1 : Hid ((C.outEnd (c1, l1)).2 = l1 ++ [⟨c1.sent, c1.came, ByteArray.empty⟩]) := by
          show _ = _
          simp only [C.outEnd]
          rw [if_pos ⟨List.eq_nil_of_length_eq_zero HNO.out.symm, t2b⟩]
        go_wp2_with (go_at_call 37; fail)
        refine (say_any b w.heap.size (w.heap.size + 1) _ _ _ _ l1 oo1 c1.sent ByteArray.empty _ ⟨s1, s2⟩ cm (by rw [← HNO.out]; omega) HX.out.h1 HX.out.h2 HX.out.h3 HX.out.h6).mono ?_
        rintro e w3 ⟨vo3, oo3, rfl, k1, k2, k3, k4⟩
        go_wp2
        go_meet
        case rel =>
          rw [h1.out]
          exact ⟨_, _, HX.out.said (by omega) k1 k2 k3 k4⟩
      all_goals
        have h1 : Hid ((C.outEnd (c1, l1)).2 = l1) := by
          show _ = _
          simp only [C.outEnd]
          rw [if_neg]
          rintro ⟨h3, h4⟩
          first
          | (rw [h4] at h2; cases h2)
          | (have := HNO.out; rw [h3] at this; simp at this; omega)
        go_wp2
        go_meet
        case rel =>
          rw [h1.out]
          exact ⟨_, _, HX.out⟩
    case rest =>
    obtain ⟨vo, oo, X⟩ := hcut
    clear q0 qO p13 p14 p4 pf HX
    have q0 := X.h1.cell 0
    have qO := X.h2.cell 0
    have p13 := X.h3.cell 13
    have p14 := X.h3.cell 14
    have pf := X.h3.frozen
    have q1 := X.h2.ne_ X.h3 (by decide)
    have q2 := X.h1.ne_ X.h3 (by decide)
    obtain ⟨aO2, capO2, rfl, _, _⟩ := X.h6.shape
    have HX := Lib.hid X
    simp [C.cells] at q0 qO p13 p14
    clear X
    go_wp2
    go_region
    go_wp2
    go_ret
    rw [HFI.out]
    have X4 := OutX.store (i := 14) (v := .bool false) (c' := (C.outEnd (c1, l1)).1) ((OutX.store (i := 13) (v := .bool false) (c' := { c1 with again := false }) HX.out rfl HX.out.h4 HX.out.h5).keep ((Upd.refl _ _).drew)) rfl ?_ ?_
    · exact ⟨_, _, _, ow1, of1, oo, rfl, X4.h3, X4.h4, X4.h5, X4.h6, X4.h7, X4.h8, X4.h9, X4.h10, X4.h11⟩
    · exact HX.out.h4.setCell _ (HX.out.h4.ne_blk HX.out.h3 (by decide))
    · exact HX.out.h5.setCell _ (HX.out.h5.ne_blk HX.out.h3 (by decide))
end Go.Proofs.YtdccmlpikjbcaaaGreat
