/- The walks of ctl.Window, of a tunnel's who. The walk of a tunnel's proves. The walk of a tunnel's opened. -/
import Derived.Test.YtolfjfkkbhbbbaaGreatQTunJ
namespace Go.Proofs.YtolfjfkkbhbbbaaGreat
open Go.RowKit
set_option linter.unusedSimpArgs false
set_option linter.unusedVariables false
set_option maxRecDepth 100000

set_option maxHeartbeats 1000000 in
theorem setw_at {w : World} {b : Nat} {c : C} {own : List Nat} (h : CtlAt w b c own) (n : Int) (h1 : 1 ≤ n) (h2 : n ≤ 64) :
    Calls Tryz.prog 114 #[.pointer (some ⟨b, 0, none⟩), .int .i64 n] w fun e w' => e = .returned (.int .i64 0) ∧ CtlAt w' b (c.setW n) own ∧ Upd own w w' := by
  obtain ⟨ok, vw, vf, ow, of, hb, k2, k3, k4, rfl⟩ := h
  have hm := ok.d1
  have g0 := hb.cell 0
  have g8 := hb.cell 8
  have g9 := hb.cell 9
  have g16 := hb.cell 16
  have f0 := hb.frozen 0
  have f8 := hb.frozen 8
  have f9 := hb.frozen 9
  simp [C.cells] at g0 g8 g9 g16
  rw [hm] at g16
  have HB := Lib.hid hb
  have HK := Lib.hid (And.intro k2 k3)
  have HOK := Lib.hid (C.setW_ok ok h1 h2)
  have HN := Lib.hid k4
  clear hb k2 k3 k4 ok
  go_enter Tryz.func114, Tryz.ntmps114
  go_wp2_with fail
  go_ret
  obtain ⟨k2, k3⟩ := HK.out
  have hu : Upd [b] w ((((w.setCell ⟨b, 0, none⟩ (.int .i64 n)).setCell ⟨b, 9, none⟩ (.int .i64 n)).setCell ⟨b, 8, none⟩ (.int .i64 (min c.room n)))) :=
    (((Upd.refl _ w).setCell _ (.inl (by simp))).setCell _ (.inl (by simp))).setCell _ (.inl (by simp))
  refine ⟨rfl, ⟨HOK.out, vw, vf, ow, of, (((HB.out.set_ 0 _).set_ 9 _).set_ 8 _).of_eq rfl, ?_, ?_, HN.out, rfl⟩, hu.mono (by simp)⟩
  · exact k2.upd hu (fun k hk => by simp; rintro rfl; exact k2.ne_blk HB.out (by decide) hk)
  · exact k3.upd hu (fun k hk => by simp; rintro rfl; exact k3.ne_blk HB.out (by decide) hk)


/-- What the walks below know of a message and its end. -/
structure Msg (w : World) (b : Nat) (t : Tn) (own : List Nat) (v : Value) (l : List Av) (ol : List Nat) : Prop where
  at_ : TunAt w b t own
  o : Own w 51 5 v l.length (avCells l) ol
  ne : ∀ k ∈ ol, k ∉ own
  hs : ∀ a ∈ l, a.val.size ≤ 400000
theorem Msg.avs {w : World} {b : Nat} {t : Tn} {own : List Nat} {v : Value} {l : List Av} {ol : List Nat} (h : Msg w b t own v l ol) : AvsAt w v l := AvsAt.of_own h.o
theorem Msg.keep {w w' : World} {b : Nat} {t : Tn} {own : List Nat} {v : Value} {l : List Av} {ol : List Nat} (h : Msg w b t own v l ol) (hu : Upd [] w w') : Msg w' b t own v l ol :=
  ⟨h.at_.keep hu, h.o.upd hu (by simp), h.ne, h.hs⟩
theorem Msg.sets {w : World} {b : Nat} {t : Tn} {own : List Nat} {v : Value} {l : List Av} {ol : List Nat} (h : Msg w b t own v l ol) (i : Nat) (u : Value) (t' : Tn) (hc : ∀ vd vw, (t.cells vd vw).setIfInBounds i u = t'.cells vd vw)
    (ht : t'.tape = t.tape) (hw : t'.way = t.way) : Msg (w.setCell ⟨b, i, none⟩ u) b t' own v l ol :=
  ⟨h.at_.set i u t' hc ht hw, h.o.setCell u (fun hk => h.ne b hk h.at_.mem), h.ne, h.hs⟩
theorem Msg.next {w w' : World} {b : Nat} {t t' : Tn} {own own' : List Nat} {v : Value} {l : List Av} {ol : List Nat} (h : Msg w b t own v l ol) (ha : TunAt w' b t' own') (hg : Grew w own own') (hu : Upd own w w') : Msg w' b t' own' v l ol :=
  ⟨ha, h.o.upd hu h.ne, fun k hk hk2 => by rcases hg k hk2 with h1 | h1; exact h.ne k hk h1; have := h.o.lt k hk; omega, h.hs⟩
/-- A message's block. -/
def Bx (w : World) (g : Nat) (c : Cm) (v : Value) : Prop := Blk w g 55 #[.int .i64 c.t, .int .i64 c.s, .int .i64 c.ns, .int .i64 c.nr, v]
theorem Bx.c4 {w : World} {g : Nat} {c : Cm} {v : Value} (h : Bx w g c v) : w.cell? ⟨g, 4, none⟩ = some v := h.cell 4

/-- An end, a message in a block of its own, and what has moved since the world w. -/
structure Whs (w W : World) (b : Nat) (t : Tn) (own0 own : List Nat) (v : Value) (c : Cm) (ol : List Nat) (g : Nat) : Prop where
  m : Msg W b t own v c.l ol
  u : Upd own0 w W
  x : Bx W g c v
  gb : g ≠ b
  go : g ∉ own
  gr : Grew w own0 own
  bm : b ∈ own0
section
variable {w W W' : World} {b : Nat} {t t' : Tn} {own0 own : List Nat} {v : Value} {c : Cm} {ol : List Nat} {g : Nat}
theorem Whs.begin (h : Msg w b t own v c.l ol) (hW : w.alloc (Obj.cells #[.int .i64 c.t, .int .i64 c.s, .int .i64 c.ns, .int .i64 c.nr, v] 55) = W) : Whs w W b t own own v c ol w.heap.size := by
  subst hW
  have hgo : w.heap.size ∉ own := fun hk => Nat.lt_irrefl _ (h.at_.lt _ hk)
  exact ⟨h.keep ((Upd.refl [] w).alloc _), (Upd.refl _ w).alloc _, Blk.new _ _ _, fun e => hgo (e ▸ h.at_.mem), hgo, Grew.refl _ _, h.at_.mem⟩
theorem Whs.keep (h : Whs w W b t own0 own v c ol g) (hu : Upd [] W W') : Whs w W' b t own0 own v c ol g :=
  ⟨h.m.keep hu, h.u.trans (hu.mono (by simp)), h.x.upd hu (by simp), h.gb, h.go, h.gr, h.bm⟩
theorem Whs.sets (h : Whs w W b t own0 own v c ol g) (i : Nat) (u : Value) (t' : Tn) (hc : ∀ vd vw, (t.cells vd vw).setIfInBounds i u = t'.cells vd vw)
    (ht : t'.tape = t.tape) (hw : t'.way = t.way) : Whs w (W.setCell ⟨b, i, none⟩ u) b t' own0 own v c ol g :=
  ⟨h.m.sets i u t' hc ht hw, h.u.setCell _ (.inl h.bm), h.x.far _ h.gb, h.gb, h.go, h.gr, h.bm⟩
theorem Whs.next {own' : List Nat} (h : Whs w W b t own0 own v c ol g) (ha : TunAt W' b t' own') (hg : Grew W own own') (hu : Upd own W W') : Whs w W' b t' own0 own' v c ol g :=
  ⟨h.m.next ha hg hu, h.u.trans' hu (fun x hx => h.gr x hx), h.x.upd hu h.go, h.gb, fun hk => by rcases hg g hk with h1 | h1; exact h.go h1; have := h.x.lt; omega,
    fun k hk => by rcases hg k hk with h1 | h1; exact h.gr k h1; exact .inr (Nat.le_trans h.u.size h1), h.bm⟩
theorem Whs.done {u : Value} {e : Ending} (h : Whs w W b t own0 own v c ol g) (k : TunEnd W b own t' u e W') : TunEnd w b own0 t' u e W' := by
  obtain ⟨rfl, ⟨own', k1, k2⟩, k3⟩ := k
  have hn := h.next k1 k2 k3
  exact ⟨rfl, ⟨own', k1, hn.gr⟩, hn.u⟩
theorem Whs.ret (h : Whs w W b t own0 own v c ol g) (u : Value) : TunEnd w b own0 t u (.returned u) W := ⟨rfl, ⟨own, h.m.at_, h.gr⟩, h.u⟩
end


set_option maxHeartbeats 4000000 in
theorem twho_any {w : World} {b : Nat} {t : Tn} {own : List Nat} {c : Cm} {v : Value} {ol : List Nat} (h : Msg w b t own v c.l ol) (hz : t.secret.size ≤ 60) :
    Calls Tryz.prog 102 #[.pointer (some ⟨b, 0, none⟩), c.val v] w (TunEnd w b own (t.who c.l).1 (.bool (t.who c.l).2)) := by
  have HM := Lib.hid h
  obtain ⟨ao, cap, rfl, -, -⟩ := h.o.shape
  obtain ⟨ln, hln⟩ : ∃ ln, c.l.length = ln := ⟨_, rfl⟩
  rw [hln] at HM
  rw [hln]
  clear h hln
  simp only [Cm.val]
  obtain ⟨id, hid⟩ : ∃ x, (numberAv c.l 9).1 = x := ⟨_, rfl⟩
  obtain ⟨idb, hidb⟩ : ∃ x, (numberAv c.l 9).2 = x := ⟨_, rfl⟩
  obtain ⟨pe, hpe⟩ : ∃ x, (findAv 7 c.l).1 = x := ⟨_, rfl⟩
  obtain ⟨peb, hpeb⟩ : ∃ x, (findAv 7 c.l).2 = x := ⟨_, rfl⟩
  obtain ⟨cha, hto⟩ : ∃ x, (findAv 11 c.l).1 = x := ⟨_, rfl⟩
  obtain ⟨ch, hch⟩ : ∃ x, (findAv 11 c.l).2 = x := ⟨_, rfl⟩
  obtain ⟨wn, hwn⟩ : ∃ x, (numberAv c.l 10).1 = x := ⟨_, rfl⟩
  obtain ⟨wb, hwb⟩ : ∃ x, (numberAv c.l 10).2 = x := ⟨_, rfl⟩
  have HN9 : Hid (∀ W (V : Value), AvsAt W V c.l → Calls Tryz.prog 113 #[V, .int .i64 9] W fun e w' => e = .returned (.tuple #[.int .i64 id, .bool idb]) ∧ Upd [] W w') := by
    intro W V hV
    have h := number_any c.l V 9 W hV (fun a ha => Nat.le_trans (HM.out.hs a ha) (by simp [maxLen]))
    rw [hid, hidb] at h
    exact h
  have HN10 : Hid (∀ W (V : Value), AvsAt W V c.l → Calls Tryz.prog 113 #[V, .int .i64 10] W fun e w' => e = .returned (.tuple #[.int .i64 wn, .bool wb]) ∧ Upd [] W w') := by
    intro W V hV
    have h := number_any c.l V 10 W hV (fun a ha => Nat.le_trans (HM.out.hs a ha) (by simp [maxLen]))
    rw [hwn, hwb] at h
    exact h
  have HF7 : Hid (∀ W (V : Value), AvsAt W V c.l → Calls Tryz.prog 74 #[V, .int .i64 7] W fun e w' => e = .returned (.tuple #[.string pe, .bool peb]) ∧ Upd [] W w') := by
    intro W V hV
    have h := avFind_any c.l V 7 W hV
    rw [hpe, hpeb] at h
    exact h
  have HF11 : Hid (∀ W (V : Value), AvsAt W V c.l → Calls Tryz.prog 74 #[V, .int .i64 11] W fun e w' => e = .returned (.tuple #[.string cha, .bool ch]) ∧ Upd [] W w') := by
    intro W V hV
    have h := avFind_any c.l V 11 W hV
    rw [hto, hch] at h
    exact h
  obtain ⟨R, hR⟩ : ∃ R, t.who c.l = R := ⟨_, rfl⟩
  have HR : Hid (∀ (T : Tn) (wy : C), wy = (if wb = true ∧ 1 ≤ wn ∧ wn ≤ 64 then t.way.setW wn else t.way) → T = { t with id := id, peer := pe, way := wy, to_ := cha, challenged := ch } → R = if id = 0 then (T.end_ 2, false) else (T, true)) := by
    intro T wy hwy hT
    rw [← hR, hT, hwy, ← hid, ← hpe, ← hto, ← hch, ← hwn, ← hwb]
    rfl
  rw [hR]
  clear hid hidb hpe hpeb hto hch hwn hwb hR
  have HZ := Lib.hid hz
  clear hz

  by_cases hb : wb = true
  case neg =>
    have hb : wb = false := by simpa using hb
    subst hb
    go_enter Tryz.func102, Tryz.ntmps102
    go_wp2_with fail
    obtain ⟨w0, hw0⟩ : ∃ w0, w.alloc (Obj.cells #[.int .i64 c.t, .int .i64 c.s, .int .i64 c.ns, .int .i64 c.nr, .slice ao ln cap] 55) = w0 := ⟨_, rfl⟩
    have S0 := Lib.hid (Whs.begin HM.out hw0)
    obtain ⟨g, hg⟩ : ∃ g, w.heap.size = g := ⟨_, rfl⟩
    rw [hg] at S0
    rw [hw0, hg]
    have hgb := S0.out.gb
    have c4 := S0.out.x.c4
    clear hw0 hg
    refine (HN9.out _ _ S0.out.m.avs).mono ?_
    rintro e w1 ⟨rfl, u1⟩
    have S1 := Lib.hid (S0.out.keep u1)
    have c4 := S1.out.x.c4
    have s11 := S1.out.m.at_.cellAt 11 (.int .i64 t.id) (fun _ _ => rfl)
    have f11 := S1.out.m.at_.frozen 11
    clear u1
    go_wp2_with fail
    have S2 := Lib.hid (S1.out.sets 11 (.int .i64 id) { t with id := id } (fun _ _ => rfl) rfl rfl)
    refine (HF7.out _ _ S2.out.m.avs).mono ?_
    rintro e w2 ⟨rfl, u2⟩
    have S3 := Lib.hid (S2.out.keep u2)
    have c4 := S3.out.x.c4
    have s12 := S3.out.m.at_.cellAt 12 (.string t.peer) (fun _ _ => rfl)
    have f12 := S3.out.m.at_.frozen 12
    clear u2 s11 f11
    go_wp2_with fail
    have S4 := Lib.hid (S3.out.sets 12 (.string pe) { t with id := id, peer := pe } (fun _ _ => rfl) rfl rfl)
    refine (HN10.out _ _ S4.out.m.avs).mono ?_
    rintro e w3 ⟨rfl, u3⟩
    have S5 := Lib.hid (S4.out.keep u3)
    have c4 := S5.out.x.c4
    obtain ⟨bw, ow, c9, hcw, hback⟩ := S5.out.m.at_.wayUp
    have HB := Lib.hid hback
    clear u3 s12 f12 hback
    clear hcw c9
    have S6 := S5
    obtain ⟨wy, hwy⟩ : ∃ wy, t.way = wy := ⟨_, rfl⟩
    have HWY := Lib.hid (HR.out _ wy (by rw [← hwy, if_neg (by rintro ⟨h0, h1, h2⟩; first | omega | cases h0)]) rfl)
    have HEQ : Hid (({ t with id := id, peer := pe } : Tn) = { t with id := id, peer := pe, way := wy }) := by show _ = _; rw [← hwy]
    rw [HEQ.out] at S6
    clear HR hwy
    go_wp2_with fail
    refine (HF11.out _ _ S6.out.m.avs).mono ?_
    rintro e w5 ⟨rfl, u5⟩
    have S7 := Lib.hid (S6.out.keep u5)
    have s15 := S7.out.m.at_.cellAt 15 (.string t.to_) (fun _ _ => rfl)
    have f15 := S7.out.m.at_.frozen 15
    have s16 := S7.out.m.at_.cellAt 16 (.bool t.challenged) (fun _ _ => rfl)
    have f16 := S7.out.m.at_.frozen 16
    have s11 := S7.out.m.at_.cellAt 11 (.int .i64 id) (fun _ _ => rfl)
    have S9 := Lib.hid ((S7.out.sets 15 (.string cha) { t with id := id, peer := pe, way := wy, to_ := cha } (fun _ _ => rfl) rfl rfl).sets 16 (.bool ch) { t with id := id, peer := pe, way := wy, to_ := cha, challenged := ch } (fun _ _ => rfl) rfl rfl)
    clear u5 c4
    by_cases hid : id = 0
    · have HWZ : Hid (R = ((({ t with id := id, peer := pe, way := wy, to_ := cha, challenged := ch } : Tn).end_ 2), false)) := by show _ = _; rw [HWY.out, if_pos hid]
      have hend := Lib.hid (tend_any S9.out.m.at_ 2 (Nat.le_trans HZ.out (by omega)))
      generalize (({ t with id := id, peer := pe, way := wy, to_ := cha, challenged := ch } : Tn).end_ 2) = TE at *
      clear HWY
      subst hid
      go_wp2_with fail
      refine hend.out.mono ?_
      rintro e w6 k6
      obtain ⟨rfl, k6⟩ : e = _ ∧ _ := ⟨k6.e, k6⟩
      go_wp2_with fail
      go_ret
      have k7 := S9.out.done k6
      rw [HWZ.out]
      exact ⟨rfl, k7.ex, k7.upd⟩
    · have HWZ : Hid (R = (({ t with id := id, peer := pe, way := wy, to_ := cha, challenged := ch } : Tn), true)) := by show _ = _; rw [HWY.out, if_neg hid]
      clear HWY
      go_wp2_with fail
      go_ret
      rw [HWZ.out]
      exact S9.out.ret _
  subst hb
  by_cases hw1 : wn < 1
  ·
    go_enter Tryz.func102, Tryz.ntmps102
    go_wp2_with fail
    obtain ⟨w0, hw0⟩ : ∃ w0, w.alloc (Obj.cells #[.int .i64 c.t, .int .i64 c.s, .int .i64 c.ns, .int .i64 c.nr, .slice ao ln cap] 55) = w0 := ⟨_, rfl⟩
    have S0 := Lib.hid (Whs.begin HM.out hw0)
    obtain ⟨g, hg⟩ : ∃ g, w.heap.size = g := ⟨_, rfl⟩
    rw [hg] at S0
    rw [hw0, hg]
    have hgb := S0.out.gb
    have c4 := S0.out.x.c4
    clear hw0 hg
    refine (HN9.out _ _ S0.out.m.avs).mono ?_
    rintro e w1 ⟨rfl, u1⟩
    have S1 := Lib.hid (S0.out.keep u1)
    have c4 := S1.out.x.c4
    have s11 := S1.out.m.at_.cellAt 11 (.int .i64 t.id) (fun _ _ => rfl)
    have f11 := S1.out.m.at_.frozen 11
    clear u1
    go_wp2_with fail
    have S2 := Lib.hid (S1.out.sets 11 (.int .i64 id) { t with id := id } (fun _ _ => rfl) rfl rfl)
    refine (HF7.out _ _ S2.out.m.avs).mono ?_
    rintro e w2 ⟨rfl, u2⟩
    have S3 := Lib.hid (S2.out.keep u2)
    have c4 := S3.out.x.c4
    have s12 := S3.out.m.at_.cellAt 12 (.string t.peer) (fun _ _ => rfl)
    have f12 := S3.out.m.at_.frozen 12
    clear u2 s11 f11
    go_wp2_with fail
    have S4 := Lib.hid (S3.out.sets 12 (.string pe) { t with id := id, peer := pe } (fun _ _ => rfl) rfl rfl)
    refine (HN10.out _ _ S4.out.m.avs).mono ?_
    rintro e w3 ⟨rfl, u3⟩
    have S5 := Lib.hid (S4.out.keep u3)
    have c4 := S5.out.x.c4
    obtain ⟨bw, ow, c9, hcw, hback⟩ := S5.out.m.at_.wayUp
    have HB := Lib.hid hback
    clear u3 s12 f12 hback
    clear hcw c9
    have S6 := S5
    obtain ⟨wy, hwy⟩ : ∃ wy, t.way = wy := ⟨_, rfl⟩
    have HWY := Lib.hid (HR.out _ wy (by rw [← hwy, if_neg (by rintro ⟨h0, h1, h2⟩; first | omega | cases h0)]) rfl)
    have HEQ : Hid (({ t with id := id, peer := pe } : Tn) = { t with id := id, peer := pe, way := wy }) := by show _ = _; rw [← hwy]
    rw [HEQ.out] at S6
    clear HR hwy
    go_wp2_with fail
    refine (HF11.out _ _ S6.out.m.avs).mono ?_
    rintro e w5 ⟨rfl, u5⟩
    have S7 := Lib.hid (S6.out.keep u5)
    have s15 := S7.out.m.at_.cellAt 15 (.string t.to_) (fun _ _ => rfl)
    have f15 := S7.out.m.at_.frozen 15
    have s16 := S7.out.m.at_.cellAt 16 (.bool t.challenged) (fun _ _ => rfl)
    have f16 := S7.out.m.at_.frozen 16
    have s11 := S7.out.m.at_.cellAt 11 (.int .i64 id) (fun _ _ => rfl)
    have S9 := Lib.hid ((S7.out.sets 15 (.string cha) { t with id := id, peer := pe, way := wy, to_ := cha } (fun _ _ => rfl) rfl rfl).sets 16 (.bool ch) { t with id := id, peer := pe, way := wy, to_ := cha, challenged := ch } (fun _ _ => rfl) rfl rfl)
    clear u5 c4
    by_cases hid : id = 0
    · have HWZ : Hid (R = ((({ t with id := id, peer := pe, way := wy, to_ := cha, challenged := ch } : Tn).end_ 2), false)) := by show _ = _; rw [HWY.out, if_pos hid]
      have hend := Lib.hid (tend_any S9.out.m.at_ 2 (Nat.le_trans HZ.out (by omega)))
      generalize (({ t with id := id, peer := pe, way := wy, to_ := cha, challenged := ch } : Tn).end_ 2) = TE at *
      clear HWY
      subst hid
      go_wp2_with fail
      refine hend.out.mono ?_
      rintro e w6 k6
      obtain ⟨rfl, k6⟩ : e = _ ∧ _ := ⟨k6.e, k6⟩
      go_wp2_with fail
      go_ret
      have k7 := S9.out.done k6
      rw [HWZ.out]
      exact ⟨rfl, k7.ex, k7.upd⟩
    · have HWZ : Hid (R = (({ t with id := id, peer := pe, way := wy, to_ := cha, challenged := ch } : Tn), true)) := by show _ = _; rw [HWY.out, if_neg hid]
      clear HWY
      go_wp2_with fail
      go_ret
      rw [HWZ.out]
      exact S9.out.ret _
  have hw1 : 1 ≤ wn := by omega
  by_cases hw2 : 64 < wn
  ·
    go_enter Tryz.func102, Tryz.ntmps102
    go_wp2_with fail
    obtain ⟨w0, hw0⟩ : ∃ w0, w.alloc (Obj.cells #[.int .i64 c.t, .int .i64 c.s, .int .i64 c.ns, .int .i64 c.nr, .slice ao ln cap] 55) = w0 := ⟨_, rfl⟩
    have S0 := Lib.hid (Whs.begin HM.out hw0)
    obtain ⟨g, hg⟩ : ∃ g, w.heap.size = g := ⟨_, rfl⟩
    rw [hg] at S0
    rw [hw0, hg]
    have hgb := S0.out.gb
    have c4 := S0.out.x.c4
    clear hw0 hg
    refine (HN9.out _ _ S0.out.m.avs).mono ?_
    rintro e w1 ⟨rfl, u1⟩
    have S1 := Lib.hid (S0.out.keep u1)
    have c4 := S1.out.x.c4
    have s11 := S1.out.m.at_.cellAt 11 (.int .i64 t.id) (fun _ _ => rfl)
    have f11 := S1.out.m.at_.frozen 11
    clear u1
    go_wp2_with fail
    have S2 := Lib.hid (S1.out.sets 11 (.int .i64 id) { t with id := id } (fun _ _ => rfl) rfl rfl)
    refine (HF7.out _ _ S2.out.m.avs).mono ?_
    rintro e w2 ⟨rfl, u2⟩
    have S3 := Lib.hid (S2.out.keep u2)
    have c4 := S3.out.x.c4
    have s12 := S3.out.m.at_.cellAt 12 (.string t.peer) (fun _ _ => rfl)
    have f12 := S3.out.m.at_.frozen 12
    clear u2 s11 f11
    go_wp2_with fail
    have S4 := Lib.hid (S3.out.sets 12 (.string pe) { t with id := id, peer := pe } (fun _ _ => rfl) rfl rfl)
    refine (HN10.out _ _ S4.out.m.avs).mono ?_
    rintro e w3 ⟨rfl, u3⟩
    have S5 := Lib.hid (S4.out.keep u3)
    have c4 := S5.out.x.c4
    obtain ⟨bw, ow, c9, hcw, hback⟩ := S5.out.m.at_.wayUp
    have HB := Lib.hid hback
    clear u3 s12 f12 hback
    clear hcw c9
    have S6 := S5
    obtain ⟨wy, hwy⟩ : ∃ wy, t.way = wy := ⟨_, rfl⟩
    have HWY := Lib.hid (HR.out _ wy (by rw [← hwy, if_neg (by rintro ⟨h0, h1, h2⟩; first | omega | cases h0)]) rfl)
    have HEQ : Hid (({ t with id := id, peer := pe } : Tn) = { t with id := id, peer := pe, way := wy }) := by show _ = _; rw [← hwy]
    rw [HEQ.out] at S6
    clear HR hwy
    go_wp2_with fail
    refine (HF11.out _ _ S6.out.m.avs).mono ?_
    rintro e w5 ⟨rfl, u5⟩
    have S7 := Lib.hid (S6.out.keep u5)
    have s15 := S7.out.m.at_.cellAt 15 (.string t.to_) (fun _ _ => rfl)
    have f15 := S7.out.m.at_.frozen 15
    have s16 := S7.out.m.at_.cellAt 16 (.bool t.challenged) (fun _ _ => rfl)
    have f16 := S7.out.m.at_.frozen 16
    have s11 := S7.out.m.at_.cellAt 11 (.int .i64 id) (fun _ _ => rfl)
    have S9 := Lib.hid ((S7.out.sets 15 (.string cha) { t with id := id, peer := pe, way := wy, to_ := cha } (fun _ _ => rfl) rfl rfl).sets 16 (.bool ch) { t with id := id, peer := pe, way := wy, to_ := cha, challenged := ch } (fun _ _ => rfl) rfl rfl)
    clear u5 c4
    by_cases hid : id = 0
    · have HWZ : Hid (R = ((({ t with id := id, peer := pe, way := wy, to_ := cha, challenged := ch } : Tn).end_ 2), false)) := by show _ = _; rw [HWY.out, if_pos hid]
      have hend := Lib.hid (tend_any S9.out.m.at_ 2 (Nat.le_trans HZ.out (by omega)))
      generalize (({ t with id := id, peer := pe, way := wy, to_ := cha, challenged := ch } : Tn).end_ 2) = TE at *
      clear HWY
      subst hid
      go_wp2_with fail
      refine hend.out.mono ?_
      rintro e w6 k6
      obtain ⟨rfl, k6⟩ : e = _ ∧ _ := ⟨k6.e, k6⟩
      go_wp2_with fail
      go_ret
      have k7 := S9.out.done k6
      rw [HWZ.out]
      exact ⟨rfl, k7.ex, k7.upd⟩
    · have HWZ : Hid (R = (({ t with id := id, peer := pe, way := wy, to_ := cha, challenged := ch } : Tn), true)) := by show _ = _; rw [HWY.out, if_neg hid]
      clear HWY
      go_wp2_with fail
      go_ret
      rw [HWZ.out]
      exact S9.out.ret _
  have hw2 : wn ≤ 64 := by omega
  go_enter Tryz.func102, Tryz.ntmps102
  go_wp2_with fail
  obtain ⟨w0, hw0⟩ : ∃ w0, w.alloc (Obj.cells #[.int .i64 c.t, .int .i64 c.s, .int .i64 c.ns, .int .i64 c.nr, .slice ao ln cap] 55) = w0 := ⟨_, rfl⟩
  have S0 := Lib.hid (Whs.begin HM.out hw0)
  obtain ⟨g, hg⟩ : ∃ g, w.heap.size = g := ⟨_, rfl⟩
  rw [hg] at S0
  rw [hw0, hg]
  have hgb := S0.out.gb
  have c4 := S0.out.x.c4
  clear hw0 hg
  refine (HN9.out _ _ S0.out.m.avs).mono ?_
  rintro e w1 ⟨rfl, u1⟩
  have S1 := Lib.hid (S0.out.keep u1)
  have c4 := S1.out.x.c4
  have s11 := S1.out.m.at_.cellAt 11 (.int .i64 t.id) (fun _ _ => rfl)
  have f11 := S1.out.m.at_.frozen 11
  clear u1
  go_wp2_with fail
  have S2 := Lib.hid (S1.out.sets 11 (.int .i64 id) { t with id := id } (fun _ _ => rfl) rfl rfl)
  refine (HF7.out _ _ S2.out.m.avs).mono ?_
  rintro e w2 ⟨rfl, u2⟩
  have S3 := Lib.hid (S2.out.keep u2)
  have c4 := S3.out.x.c4
  have s12 := S3.out.m.at_.cellAt 12 (.string t.peer) (fun _ _ => rfl)
  have f12 := S3.out.m.at_.frozen 12
  clear u2 s11 f11
  go_wp2_with fail
  have S4 := Lib.hid (S3.out.sets 12 (.string pe) { t with id := id, peer := pe } (fun _ _ => rfl) rfl rfl)
  refine (HN10.out _ _ S4.out.m.avs).mono ?_
  rintro e w3 ⟨rfl, u3⟩
  have S5 := Lib.hid (S4.out.keep u3)
  have c4 := S5.out.x.c4
  obtain ⟨bw, ow, c9, hcw, hback⟩ := S5.out.m.at_.wayUp
  have HB := Lib.hid hback
  clear u3 s12 f12 hback
  have c9' := c9
  go_wp2_with fail
  refine (setw_at hcw wn hw1 hw2).mono ?_
  rintro e w4 ⟨rfl, k1, k2⟩
  obtain ⟨⟨own', q1, q2⟩, q3⟩ := HB.out w4 _ ow k1 (Grew.refl _ _) k2
  have S6 := Lib.hid (S5.out.next q1 q2 q3)
  have HWY := Lib.hid (HR.out _ _ (if_pos ⟨by trivial, hw1, hw2⟩).symm rfl)
  have c4 := S6.out.x.c4
  clear k1 k2 q1 q2 q3 c9 c9' hcw HR
  generalize t.way.setW wn = wy at *
  go_wp2_with fail
  refine (HF11.out _ _ S6.out.m.avs).mono ?_
  rintro e w5 ⟨rfl, u5⟩
  have S7 := Lib.hid (S6.out.keep u5)
  have s15 := S7.out.m.at_.cellAt 15 (.string t.to_) (fun _ _ => rfl)
  have f15 := S7.out.m.at_.frozen 15
  have s16 := S7.out.m.at_.cellAt 16 (.bool t.challenged) (fun _ _ => rfl)
  have f16 := S7.out.m.at_.frozen 16
  have s11 := S7.out.m.at_.cellAt 11 (.int .i64 id) (fun _ _ => rfl)
  have S9 := Lib.hid ((S7.out.sets 15 (.string cha) { t with id := id, peer := pe, way := wy, to_ := cha } (fun _ _ => rfl) rfl rfl).sets 16 (.bool ch) { t with id := id, peer := pe, way := wy, to_ := cha, challenged := ch } (fun _ _ => rfl) rfl rfl)
  clear u5 c4
  by_cases hid : id = 0
  · have HWZ : Hid (R = ((({ t with id := id, peer := pe, way := wy, to_ := cha, challenged := ch } : Tn).end_ 2), false)) := by show _ = _; rw [HWY.out, if_pos hid]
    have hend := Lib.hid (tend_any S9.out.m.at_ 2 (Nat.le_trans HZ.out (by omega)))
    generalize (({ t with id := id, peer := pe, way := wy, to_ := cha, challenged := ch } : Tn).end_ 2) = TE at *
    clear HWY
    subst hid
    go_wp2_with fail
    refine hend.out.mono ?_
    rintro e w6 k6
    obtain ⟨rfl, k6⟩ : e = _ ∧ _ := ⟨k6.e, k6⟩
    go_wp2_with fail
    go_ret
    have k7 := S9.out.done k6
    rw [HWZ.out]
    exact ⟨rfl, k7.ex, k7.upd⟩
  · have HWZ : Hid (R = (({ t with id := id, peer := pe, way := wy, to_ := cha, challenged := ch } : Tn), true)) := by show _ = _; rw [HWY.out, if_neg hid]
    clear HWY
    go_wp2_with fail
    go_ret
    rw [HWZ.out]
    exact S9.out.ret _
end Go.Proofs.YtolfjfkkbhbbbaaGreat
namespace Go.Proofs.YtolfjfkkbhbbbaaGreat
open Go.RowKit
set_option linter.unusedSimpArgs false
set_option linter.unusedVariables false
set_option maxRecDepth 100000

theorem chapS_size (by_ : Int) (secret q : ByteArray) : (chapS by_ secret q).size = 16 := md5S_size _
def prvA (w : World) (vs : List Value) (W : World) : Prop := Upd [] w W
set_option maxHeartbeats 4000000 in
theorem tproves_any {w : World} {b : Nat} {t : Tn} {own : List Nat} {c : Cm} {v : Value} {ol : List Nat} (h : Msg w b t own v c.l ol) (by_ : Int) (hby : 0 ≤ by_ ∧ by_ < 256) (hz : t.secret.size ≤ 60) (hz2 : t.asked.size ≤ 400000) :
    Calls Tryz.prog 104 #[.pointer (some ⟨b, 0, none⟩), c.val v, .int .i64 by_] w fun e w' => e = .returned (.bool (t.proves c.l by_)) ∧ Upd [] w w' := by
  have HM := Lib.hid h
  obtain ⟨ao, cap, rfl, -, -⟩ := h.o.shape
  obtain ⟨ln, hln⟩ : ∃ ln, c.l.length = ln := ⟨_, rfl⟩
  rw [hln] at HM
  rw [hln]
  clear h hln
  simp only [Cm.val]
  obtain ⟨s, hs⟩ : ∃ x, (findAv 13 c.l).1 = x := ⟨_, rfl⟩
  obtain ⟨is_, his⟩ : ∃ x, (findAv 13 c.l).2 = x := ⟨_, rfl⟩
  have HF : Hid (∀ W (V : Value), AvsAt W V c.l → Calls Tryz.prog 74 #[V, .int .i64 13] W fun e w' => e = .returned (.tuple #[.string s, .bool is_]) ∧ Upd [] W w') := by
    intro W V hV
    have h := avFind_any c.l V 13 W hV
    rw [hs, his] at h
    exact h
  have HS : Hid (s.size ≤ 400000) := by show _ ≤ _; rw [← hs]; exact findAv_size 13 c.l _ HM.out.hs
  have HP : Hid (t.proves c.l by_ = (is_ && decide (s = chapS by_ t.secret t.asked))) := by show _ = _; rw [Tn.proves, hs, his]
  rw [HP.out]
  obtain ⟨y, hy⟩ : ∃ y, chapS by_ t.secret t.asked = y := ⟨_, rfl⟩
  have HY : Hid (∀ W, Calls Tryz.prog 42 #[.int .i64 by_, .string t.secret, .string t.asked] W fun e w' => e = .returned (.string y) ∧ Upd [] W w') := by
    intro W
    have h := chap_any by_ t.secret t.asked hby (by omega) hz2 W
    rw [hy] at h
    exact h
  have HYS : Hid (y.size ≤ 400000) := by show _ ≤ _; rw [← hy, chapS_size]; omega
  rw [hy]
  have HZ := Lib.hid hz
  clear hs his hy HP hz hz2
  have HD := Lib.hid (rfl : decide (s = y) = decide (s = y))
  have HSM : Hid (∀ W, Calls Tryz.prog 115 #[.string s, .string y] W fun e w' => e = .returned (.bool (decide (s = y))) ∧ Upd [] W w') := by
    intro W
    exact same_any s y (Nat.le_trans HS.out (by simp [maxLen])) (Nat.le_trans HYS.out (by simp [maxLen])) W
  generalize decide (s = y) = sm at *
  clear HD
  cases is_
  all_goals
    go_enter Tryz.func104, Tryz.ntmps104
    go_wp2_with fail
    obtain ⟨w0, hw0⟩ : ∃ w0, w.alloc (Obj.cells #[.int .i64 c.t, .int .i64 c.s, .int .i64 c.ns, .int .i64 c.nr, .slice ao ln cap] 55) = w0 := ⟨_, rfl⟩
    have S0 := Lib.hid (Whs.begin HM.out hw0)
    have HU0 : Hid (Upd [] w w0) := by show Upd _ _ _; rw [← hw0]; exact (Upd.refl _ _).alloc _
    obtain ⟨g, hg⟩ : ∃ g, w.heap.size = g := ⟨_, rfl⟩
    rw [hg] at S0
    rw [hw0, hg]
    have c4 := S0.out.x.c4
    clear hw0 hg
    refine (HF.out _ _ S0.out.m.avs).mono ?_
    rintro e w1 ⟨rfl, u1⟩
    have S1 := Lib.hid (S0.out.keep u1)
    have HU1 := Lib.hid (HU0.out.trans u1)
    have cA := S1.out.m.at_.cellAt 1 (.string t.secret) (fun _ _ => rfl)
    have cB := S1.out.m.at_.cellAt 14 (.string t.asked) (fun _ _ => rfl)
    clear u1 c4
    go_wp2_with fail
  · go_quiet (fail)
    go_wp2_with fail
    go_ret
    exact ⟨by simp, HU1.out.drewN _⟩
  · skip
    refine wp_region_chain [some (.bool true), some (.bool true), some (.string s), some (.int .i64 by_), some (.pointer (some ⟨b, 0, none⟩)), some (.pointer (some ⟨b, 0, none⟩)), some (.pointer (some ⟨b, 0, none⟩)), some (.pointer (some ⟨b, 1, none⟩)), some (.string t.secret), some (.pointer (some ⟨b, 0, none⟩)), some (.pointer (some ⟨b, 0, none⟩)), some (.pointer (some ⟨b, 14, none⟩)), some (.string t.asked), some (.string y), some (.bool sm), some (.bool sm), some (.bool sm)] [15] (prvA w1) [(0, 0), (0, 0), (0, 0), (0, 0), (0, 0), (0, 0), (0, 0), (0, 0), (0, 0), (0, 0), (0, 0), (0, 0), (0, 0), (0, 0), (0, 0), (0, 0), (1, 1)] (by kernel_rfl) (by kernel_rfl) (by kernel_rfl) (by kernel_rfl) (by kernel_rfl) (by kernel_rfl) (((Upd.refl [] _).drew)) ?_ ?_
    · refine StepsC.cons ?_ (StepsC.cons ?_ (StepsC.cons ?_ (StepsC.cons ?_ (StepsC.cons ?_ (StepsC.cons ?_ (StepsC.cons ?_ (StepsC.cons ?_ (StepsC.cons ?_ (StepsC.cons ?_ (StepsC.cons ?_ (StepsC.cons ?_ (StepsC.cons ?_ (StepsC.cons ?_ (StepsC.cons ?_ (StepsC.cons ?_ (StepsC.cons ?_ StepsC.nil))))))))))))))))
      · refine chain_is _ (.inl rfl) ⟨_, rfl⟩ (by kernel_rfl) rfl ?_
        intro a W kst l0 h0 A0 hF hD
        have k0 : kst = 0 := Nat.le_antisymm h0 l0
        subst k0
        clear l0 h0
        have e8 : a.tmps[8]?.getD undef = _ := (ev a 8).symm.trans (hF 8 (by kernel_rfl))
        clear hF hD
        go_simp
      · refine chain_is _ (.inl rfl) ⟨_, rfl⟩ (by kernel_rfl) rfl ?_
        intro a W kst l0 h0 A0 hF hD
        have k0 : kst = 0 := Nat.le_antisymm h0 l0
        subst k0
        clear l0 h0
        have e15 : a.tmps[15]?.getD undef = .bool true := (ev a 15).symm.trans (hD _ (Array.mem_of_getElem? (i := 0) rfl) rfl)
        clear hF hD
        go_simp
      · refine chain_is _ (.inr ⟨_, _, _, rfl, Array.mem_of_getElem? (i := 0) rfl, rfl, rfl, fun _ h => h⟩) ⟨_, rfl⟩ (by kernel_rfl) rfl ?_
        intro a W kst l0 h0 A0 hF hD
        have k0 : kst = 0 := Nat.le_antisymm h0 l0
        subst k0
        clear l0 h0
        have e7 : a.tmps[7]?.getD undef = _ := (ev a 7).symm.trans (hF 7 (by kernel_rfl))
        clear hF hD
        go_simp
      · refine chain_is _ (.inr ⟨_, _, _, rfl, Array.mem_of_getElem? (i := 0) rfl, rfl, rfl, fun _ h => h⟩) ⟨_, rfl⟩ (by kernel_rfl) rfl ?_
        intro a W kst l0 h0 A0 hF hD
        have k0 : kst = 0 := Nat.le_antisymm h0 l0
        subst k0
        clear l0 h0
        have e2 : a.tmps[2]?.getD undef = _ := (ev a 2).symm.trans (hF 2 (by kernel_rfl))
        clear hF hD
        go_simp
      · refine chain_is _ (.inr ⟨_, _, _, rfl, Array.mem_of_getElem? (i := 0) rfl, rfl, rfl, fun _ h => h⟩) ⟨_, rfl⟩ (by kernel_rfl) rfl ?_
        intro a W kst l0 h0 A0 hF hD
        have k0 : kst = 0 := Nat.le_antisymm h0 l0
        subst k0
        clear l0 h0
        have e0 : a.tmps[0]?.getD undef = _ := (ev a 0).symm.trans (hF 0 (by kernel_rfl))
        clear hF hD
        go_simp
      · refine chain_is _ (.inr ⟨_, _, _, rfl, Array.mem_of_getElem? (i := 1) rfl, rfl, rfl, fun _ h => h⟩) ⟨_, rfl⟩ (by kernel_rfl) rfl ?_
        intro a W kst l0 h0 A0 hF hD
        have k0 : kst = 0 := Nat.le_antisymm h0 l0
        subst k0
        clear l0 h0
        have e19 : a.tmps[19]?.getD undef = .pointer (some ⟨b, 0, none⟩) := (ev a 19).symm.trans (hD _ (Array.mem_of_getElem? (i := 0) rfl) rfl)
        clear hF hD
        go_simp
      · refine chain_is _ (.inr ⟨_, _, _, rfl, Array.mem_of_getElem? (i := 1) rfl, rfl, rfl, fun _ h => h⟩) ⟨_, rfl⟩ (by kernel_rfl) rfl ?_
        intro a W kst l0 h0 A0 hF hD
        have k0 : kst = 0 := Nat.le_antisymm h0 l0
        subst k0
        clear l0 h0
        have e20 : a.tmps[20]?.getD undef = .pointer (some ⟨b, 0, none⟩) := (ev a 20).symm.trans (hD _ (Array.mem_of_getElem? (i := 0) rfl) rfl)
        clear hF hD
        go_simp
      · refine chain_is _ (.inr ⟨_, _, _, rfl, Array.mem_of_getElem? (i := 1) rfl, rfl, rfl, fun _ h => h⟩) ⟨_, rfl⟩ (by kernel_rfl) rfl ?_
        intro a W kst l0 h0 A0 hF hD
        have k0 : kst = 0 := Nat.le_antisymm h0 l0
        subst k0
        clear l0 h0
        have e21 : a.tmps[21]?.getD undef = .pointer (some ⟨b, 0, none⟩) := (ev a 21).symm.trans (hD _ (Array.mem_of_getElem? (i := 0) rfl) rfl)
        clear hF hD
        go_simp
      · refine chain_is _ (.inr ⟨_, _, _, rfl, Array.mem_of_getElem? (i := 1) rfl, rfl, rfl, fun _ h => h⟩) ⟨_, rfl⟩ (by kernel_rfl) rfl ?_
        intro a W kst l0 h0 A0 hF hD
        have k0 : kst = 0 := Nat.le_antisymm h0 l0
        subst k0
        clear l0 h0
        have e22 : a.tmps[22]?.getD undef = .pointer (some ⟨b, 1, none⟩) := (ev a 22).symm.trans (hD _ (Array.mem_of_getElem? (i := 0) rfl) rfl)
        clear hF hD
        have hu : Upd [] w1 W := A0
        have g2 := (S1.out.m.at_.keep hu).cellAt 1 (.string t.secret) (fun _ _ => rfl)
        go_simp
      · refine chain_is _ (.inr ⟨_, _, _, rfl, Array.mem_of_getElem? (i := 0) rfl, rfl, rfl, fun _ h => h⟩) ⟨_, rfl⟩ (by kernel_rfl) rfl ?_
        intro a W kst l0 h0 A0 hF hD
        have k0 : kst = 0 := Nat.le_antisymm h0 l0
        subst k0
        clear l0 h0
        have e0 : a.tmps[0]?.getD undef = _ := (ev a 0).symm.trans (hF 0 (by kernel_rfl))
        clear hF hD
        go_simp
      · refine chain_is _ (.inr ⟨_, _, _, rfl, Array.mem_of_getElem? (i := 1) rfl, rfl, rfl, fun _ h => h⟩) ⟨_, rfl⟩ (by kernel_rfl) rfl ?_
        intro a W kst l0 h0 A0 hF hD
        have k0 : kst = 0 := Nat.le_antisymm h0 l0
        subst k0
        clear l0 h0
        have e24 : a.tmps[24]?.getD undef = .pointer (some ⟨b, 0, none⟩) := (ev a 24).symm.trans (hD _ (Array.mem_of_getElem? (i := 0) rfl) rfl)
        clear hF hD
        go_simp
      · refine chain_is _ (.inr ⟨_, _, _, rfl, Array.mem_of_getElem? (i := 1) rfl, rfl, rfl, fun _ h => h⟩) ⟨_, rfl⟩ (by kernel_rfl) rfl ?_
        intro a W kst l0 h0 A0 hF hD
        have k0 : kst = 0 := Nat.le_antisymm h0 l0
        subst k0
        clear l0 h0
        have e25 : a.tmps[25]?.getD undef = .pointer (some ⟨b, 0, none⟩) := (ev a 25).symm.trans (hD _ (Array.mem_of_getElem? (i := 0) rfl) rfl)
        clear hF hD
        go_simp
      · refine chain_is _ (.inr ⟨_, _, _, rfl, Array.mem_of_getElem? (i := 1) rfl, rfl, rfl, fun _ h => h⟩) ⟨_, rfl⟩ (by kernel_rfl) rfl ?_
        intro a W kst l0 h0 A0 hF hD
        have k0 : kst = 0 := Nat.le_antisymm h0 l0
        subst k0
        clear l0 h0
        have e26 : a.tmps[26]?.getD undef = .pointer (some ⟨b, 14, none⟩) := (ev a 26).symm.trans (hD _ (Array.mem_of_getElem? (i := 0) rfl) rfl)
        clear hF hD
        have hu : Upd [] w1 W := A0
        have g2 := (S1.out.m.at_.keep hu).cellAt 14 (.string t.asked) (fun _ _ => rfl)
        go_simp
      · refine chain_beside _ (.inr ⟨_, _, _, rfl, Array.mem_of_getElem? (i := 3) rfl, rfl, rfl, fun _ h => h⟩) ⟨_, rfl⟩ (by kernel_rfl) rfl ?_
        intro a W kst l0 h0 A0 hF hD
        have k0 : kst = 0 := Nat.le_antisymm h0 l0
        subst k0
        clear l0 h0
        have e18 : a.tmps[18]?.getD undef = .int .i64 by_ := (ev a 18).symm.trans (hD _ (Array.mem_of_getElem? (i := 0) rfl) rfl)
        have e23 : a.tmps[23]?.getD undef = .string t.secret := (ev a 23).symm.trans (hD _ (Array.mem_of_getElem? (i := 1) rfl) rfl)
        have e27 : a.tmps[27]?.getD undef = .string t.asked := (ev a 27).symm.trans (hD _ (Array.mem_of_getElem? (i := 2) rfl) rfl)
        clear hF hD
        have hu : Upd [] w1 W := A0
        refine ⟨_, _, by (go_simp; first | done | rfl | exact ⟨rfl, rfl⟩), ?_⟩
        refine (HY.out _).mono ?_
        rintro e wq ⟨rfl, hu2⟩
        exact ⟨rfl, hu.trans hu2⟩
      · refine chain_beside _ (.inr ⟨_, _, _, rfl, Array.mem_of_getElem? (i := 3) rfl, rfl, rfl, fun _ h => h⟩) ⟨_, rfl⟩ (by kernel_rfl) rfl ?_
        intro a W kst l0 h0 A0 hF hD
        have k0 : kst = 0 := Nat.le_antisymm h0 l0
        subst k0
        clear l0 h0
        have e17 : a.tmps[17]?.getD undef = .string s := (ev a 17).symm.trans (hD _ (Array.mem_of_getElem? (i := 0) rfl) rfl)
        have e28 : a.tmps[28]?.getD undef = .string y := (ev a 28).symm.trans (hD _ (Array.mem_of_getElem? (i := 1) rfl) rfl)
        clear hF hD
        have hu : Upd [] w1 W := A0
        refine ⟨_, _, by (go_simp; first | done | rfl | exact ⟨rfl, rfl⟩), ?_⟩
        refine (HSM.out _).mono ?_
        rintro e wq ⟨rfl, hu2⟩
        exact ⟨rfl, hu.trans hu2⟩
      · refine chain_run (.inl rfl) ⟨_, rfl⟩ (by kernel_rfl) ?_
        intro a W kst l0 h0 A0 hF hD
        have k0 : kst = 0 := Nat.le_antisymm h0 l0
        subst k0
        clear l0 h0
        have e16 : a.tmps[16]?.getD undef = .bool true := (ev a 16).symm.trans (hD _ (Array.mem_of_getElem? (i := 0) rfl) rfl)
        have e29 : a.tmps[29]?.getD undef = .bool sm := (ev a 29).symm.trans (hD _ (Array.mem_of_getElem? (i := 1) rfl) rfl)
        clear hF hD
        exact ⟨_, W, by (go_simp; first | done | rfl), rfl, A0⟩
      · refine chain_is _ (.inl rfl) ⟨_, rfl⟩ (by kernel_rfl) rfl ?_
        intro a W kst l0 h0 A0 hF hD
        have k0 : kst = 1 := Nat.le_antisymm h0 l0
        subst k0
        clear l0 h0
        have e30 : a.tmps[30]?.getD undef = .bool sm := (ev a 30).symm.trans (hD _ (Array.mem_of_getElem? (i := 0) rfl) rfl)
        clear hF hD
        go_simp
    intro vals W hv hA
    have v0 : vals 0 = .bool true := hv 0 (by decide)
    have v1 : vals 1 = .bool true := hv 1 (by decide)
    have v2 : vals 2 = .string s := hv 2 (by decide)
    have v3 : vals 3 = .int .i64 by_ := hv 3 (by decide)
    have v4 : vals 4 = .pointer (some ⟨b, 0, none⟩) := hv 4 (by decide)
    have v5 : vals 5 = .pointer (some ⟨b, 0, none⟩) := hv 5 (by decide)
    have v6 : vals 6 = .pointer (some ⟨b, 0, none⟩) := hv 6 (by decide)
    have v7 : vals 7 = .pointer (some ⟨b, 1, none⟩) := hv 7 (by decide)
    have v8 : vals 8 = .string t.secret := hv 8 (by decide)
    have v9 : vals 9 = .pointer (some ⟨b, 0, none⟩) := hv 9 (by decide)
    have v10 : vals 10 = .pointer (some ⟨b, 0, none⟩) := hv 10 (by decide)
    have v11 : vals 11 = .pointer (some ⟨b, 14, none⟩) := hv 11 (by decide)
    have v12 : vals 12 = .string t.asked := hv 12 (by decide)
    have v13 : vals 13 = .string y := hv 13 (by decide)
    have v14 : vals 14 = .bool sm := hv 14 (by decide)
    have v15 : vals 15 = .bool sm := hv 15 (by decide)
    have v16 : vals 16 = .bool sm := hv 16 (by decide)
    clear hv
    have hu : Upd [] w1 W := hA
    simp only [putAll, Act.put, Nat.zero_add, Nat.reduceAdd, v0, v1, v2, v3, v4, v5, v6, v7, v8, v9, v10, v11, v12, v13, v14, v15, v16, List.setIfInBounds_toArray, List.set_cons_zero, List.set_cons_succ]
    clear v0 v1 v2 v3 v4 v5 v6 v7 v8 v9 v10 v11 v12 v13 v14 v15 v16
    have HUZ := Lib.hid (HU1.out.trans hu)
    clear hu
    go_wp2_with fail
    go_ret
    exact ⟨by simp, HUZ.out⟩
end Go.Proofs.YtolfjfkkbhbbbaaGreat
namespace Go.Proofs.YtolfjfkkbhbbbaaGreat
open Go.RowKit
set_option linter.unusedSimpArgs false
set_option linter.unusedVariables false
set_option maxRecDepth 100000

theorem Tn.send_kept (t : Tn) (s : Int) (l : List Av) : (t.send s l).1 = { t with way := (t.send s l).1.way } := by
  unfold Tn.send
  split <;> rfl
theorem Tn.end_kept (t : Tn) (k : Int) : t.end_ k = { t with way := (t.end_ k).way, state := 4 } := by
  unfold Tn.end_
  rw [t.send_kept]
structure Heard (t : Tn) (l : List Av) (p : Tn × Bool) : Prop where
  secret : p.1.secret = t.secret
  tape : p.1.tape = t.tape
  to_ : p.1.to_.size ≤ 400000
  asked : p.1.asked = t.asked
theorem Tn.who_heard (t : Tn) (l : List Av) (hs : ∀ a ∈ l, a.val.size ≤ 400000) : Heard t l (t.who l) := by
  have h := findAv_size 11 l 400000 hs
  unfold Tn.who
  split
  · rw [Tn.end_kept]
    exact ⟨rfl, rfl, h, rfl⟩
  · exact ⟨rfl, rfl, h, rfl⟩

set_option maxHeartbeats 4000000 in
theorem topened_any {w : World} {b : Nat} {t : Tn} {own : List Nat} {c : Cm} {v : Value} {ol : List Nat} (h : Msg w b t own v c.l ol) (hz : t.secret.size ≤ 60) (ha : t.tape.asks ≤ 800000) :
    Calls Tryz.prog 79 #[.pointer (some ⟨b, 0, none⟩), c.val v] w (TunEnd w b own (t.opened c.l) (.tuple #[])) := by
  have HM := Lib.hid h
  have HWH := Lib.hid (t.who_heard c.l h.hs)
  have HW0 : Hid (∀ W own v, Msg W b t own v c.l ol → Calls Tryz.prog 102 #[.pointer (some ⟨b, 0, none⟩), c.val v] W (TunEnd W b own (t.who c.l).1 (.bool (t.who c.l).2))) := fun W own v h => twho_any h hz
  obtain ⟨ao, cap, rfl, -, -⟩ := h.o.shape
  obtain ⟨ln, hln⟩ : ∃ ln, c.l.length = ln := ⟨_, rfl⟩
  rw [hln] at HM
  rw [hln]
  clear h hln
  simp only [Cm.val] at HW0 ⊢
  obtain ⟨R, hR⟩ : ∃ R, t.opened c.l = R := ⟨_, rfl⟩
  have HR : Hid (R = if (t.who c.l).2 = false then (t.who c.l).1 else (t.who c.l).1.opened1) := hR.symm
  rw [hR]
  generalize t.who c.l = p at *
  obtain ⟨P, q⟩ := p
  dsimp only at HW0 HR HWH
  have HZ1 : Hid (P.secret.size ≤ 60) := by show _ ≤ _; rw [show P.secret = t.secret from HWH.out.secret]; exact hz
  have HA : Hid (P.tape.asks ≤ 900000) := by show _ ≤ _; rw [show P.tape = t.tape from HWH.out.tape]; omega
  clear hR hz ha
  go_enter Tryz.func79, Tryz.ntmps79
  go_wp2_with fail
  obtain ⟨w0, hw0⟩ : ∃ w0, w.alloc (Obj.cells #[.int .i64 c.t, .int .i64 c.s, .int .i64 c.ns, .int .i64 c.nr, .slice ao ln cap] 55) = w0 := ⟨_, rfl⟩
  have S0 := Lib.hid (Whs.begin HM.out hw0)
  obtain ⟨g, hg⟩ : ∃ g, w.heap.size = g := ⟨_, rfl⟩
  rw [hg] at S0
  rw [hw0, hg]
  clear hw0 hg
  refine (HW0.out _ _ _ S0.out.m).mono ?_
  rintro e w1 ⟨rfl, ⟨own1, k1, k2⟩, k3⟩
  have S1 := Lib.hid (S0.out.next k1 k2 k3)
  clear k1 k2 k3 HW0
  cases q
  · have HRR := Lib.hid (HR.out.trans (if_pos rfl))
    clear HR
    go_wp2_with fail
    have k := S1.out.ret (.tuple #[])
    rw [HRR.out]
    exact bodyPost_ret (results_none rfl _ _ _) rfl k
  have HRR := Lib.hid (HR.out.trans (if_neg (by simp)))
  clear HR
  have c1 := S1.out.m.at_.cellAt 1 (.string P.secret) (fun _ _ => rfl)
  have c16 := S1.out.m.at_.cellAt 16 (.bool P.challenged) (fun _ _ => rfl)
  by_cases t0 : P.secret.size = 0
  all_goals
    obtain ⟨e0, he0⟩ : ∃ e0, P.secret.toList.isEmpty = e0 := ⟨_, rfl⟩
    have e0' := he0
    first
      | (rw [str_empty_t t0] at e0'; subst e0')
      | (rw [str_empty_f t0] at e0'; subst e0')
    cases hch : P.challenged
    all_goals
      rw [hch] at c16
      have HCH := Lib.hid hch
      have HT0 := Lib.hid t0
      clear hch
  case pos.true | neg.false =>
    have HE : Hid (R = P.end_ 4) := by show _ = _; rw [HRR.out, Tn.opened1, if_pos (by rw [HCH.out]; simp [HT0.out])]
    have hend : Hid (∀ W, TunAt W b P own1 → Calls Tryz.prog 61 #[.pointer (some ⟨b, 0, none⟩), .int .i64 4] W (TunEnd W b own1 (P.end_ 4) (.tuple #[]))) := fun W h => tend_any h 4 (Nat.le_trans HZ1.out (by omega))
    generalize P.end_ 4 = TE at *
    clear HRR t0
    go_wp2_with fail
    go_quiet (fail)
    go_wp2_with fail
    refine (hend.out _ (S1.out.keep ((Upd.refl _ _).drewN _)).m.at_).mono ?_
    rintro e w2 k6
    obtain ⟨rfl, k6⟩ : e = _ ∧ _ := ⟨k6.e, k6⟩
    go_wp2_with fail
    have k := (S1.out.keep ((Upd.refl _ _).drewN _)).done k6
    rw [HE.out]
    exact bodyPost_ret (results_none rfl _ _ _) rfl ⟨rfl, k.ex, k.upd⟩
  all_goals
    have HE : Hid (P.sayAsk 2 (P.about 2 ++ P.respond 2) = R) := by show _ = _; rw [HRR.out, Tn.opened1, if_neg (by rw [HCH.out]; simp [HT0.out])]
    have HTO : Hid (P.to_.size ≤ 400000) := HWH.out.to_
    clear HRR t0
    go_wp2_with fail
    go_quiet (fail)
    rename_i nq
    obtain ⟨w2, hw2⟩ : ∃ w2, w1.drewN nq = w2 := ⟨_, rfl⟩
    have S2 : Hid (Whs w w2 b P own own1 (.slice ao ln cap) c ol g) := by show Whs _ _ _ _ _ _ _ _ _ _; rw [← hw2]; exact S1.out.keep ((Upd.refl _ _).drewN _)
    rw [hw2]
    clear hw2 c1 c16
    go_wp2_with fail
    refine (tabout_any S2.out.m.at_ 2).mono ?_
    rintro e w3 ⟨⟨va, oa, rfl, ho, hn⟩, hu3⟩
    obtain ⟨l, hl⟩ : ∃ l, P.about 2 = l := ⟨_, rfl⟩
    have HLL : Hid (l.length = 6) := by show _ = _; rw [← hl]; rfl
    rw [hl] at ho HE
    obtain ⟨aa, ca, rfl, -, -⟩ := ho.shape
    have HU3 := Lib.hid hu3
    have HO := Lib.hid ho
    have HNW := Lib.hid hn
    obtain ⟨ln1, hln1⟩ : ∃ ln, l.length = ln := ⟨_, rfl⟩
    have HLN1 := Lib.hid hln1
    rw [hln1]
    clear ho hn hu3 hl hln1
    go_wp2_with fail
    refine (trespond_any (S2.out.m.at_.keep HU3.out) 2 (by omega) (by have := HZ1.out; omega) HTO.out).mono ?_
    obtain ⟨lr, hlr⟩ : ∃ lr, P.respond 2 = lr := ⟨_, rfl⟩
    have HLR : Hid (lr.length ≤ 1) := by show _ ≤ _; rw [← hlr, Tn.respond]; split <;> simp
    rw [hlr] at HE ⊢
    rintro e w5 ⟨⟨vr, or, rfl, hor, hnr⟩, hu5⟩
    obtain ⟨ar, cr, rfl, -, -⟩ := hor.shape
    obtain ⟨ap, cp, w6, op, hrun, ho6, hn6, hu6⟩ := app_avs (HO.out.upd hu5 (by simp)) (AvsAt.of_own hor) (by rw [HLL.out]; have := HLR.out; omega)
    obtain ⟨l2, hl2⟩ : ∃ l2, l ++ lr = l2 := ⟨_, rfl⟩
    have HL27 : Hid (l2.length ≤ 7) := by show _ ≤ _; rw [← hl2, List.length_append, HLL.out]; have := HLR.out; omega
    rw [hl2] at hrun ho6 HE
    have hu36 : Upd [] w2 w6 := (HU3.out.trans hu5).trans' hu6 (fun x hx => .inr (HNW.out x hx))
    have HO6 := Lib.hid ho6
    have HN6 : Hid (∀ k ∈ op, w2.heap.size ≤ k) := fun k hk => by
      rcases hn6 k hk with h | h
      · exact HNW.out k h
      · have := hu5.size; have := HU3.out.size; omega
    have K6 := S2.out.m.at_.keep hu36
    have HK6 := Lib.hid K6
    have HU6 : Hid (Upd own1 w2 w6) := hu36.mono (by simp)
    have HNO : Hid (∀ k ∈ own1, k < w2.heap.size) := S2.out.m.at_.lt
    have HRUN := Lib.hid hrun
    obtain ⟨lnr, hlnr⟩ : ∃ ln, lr.length = ln := ⟨_, rfl⟩
    obtain ⟨ln2, hln2⟩ : ∃ ln, l2.length = ln := ⟨_, rfl⟩
    rw [hln2, HLN1.out, hlnr] at HRUN
    rw [hlnr]
    have HLN2 := Lib.hid hln2
    have c10 := K6.state
    have f10 := K6.frozen 10
    have c18 := K6.cellAt 18 (.int .i64 P.since) (fun _ _ => rfl)
    have f18 := K6.frozen 18
    clear hor hnr hu5 hrun ho6 hn6 hu6 hl2 hu36 hlnr hln2 K6 hlr
    go_wp2_with (at_builtin; refine wpList_append_step rfl (.tmp 23) (.tmp 25) 53 rfl _ _ _ _ (by simp [Act.eval]) (by simp [Act.eval]) HRUN.out ?_)
    have HR := HE
    have hnb : b ∉ op := fun hk => by have := HN6.out b hk; have := HNO.out b HK6.out.mem; omega
    have q1 := (HK6.out.set 10 (.int .i64 2) { P with state := 2 } (fun _ _ => rfl) rfl rfl).set 18 (.int .i64 0) { P with state := 2, since := 0 } (fun _ _ => rfl) rfl rfl
    have q2 := (HU6.out.setCell (p := ⟨b, 10, none⟩) (.int .i64 2) (.inl HK6.out.mem)).setCell (p := ⟨b, 18, none⟩) (.int .i64 0) (.inl HK6.out.mem)
    have q3 := (HO6.out.setCell (p := ⟨b, 10, none⟩) (.int .i64 2) hnb).setCell (p := ⟨b, 18, none⟩) (.int .i64 0) hnb
    obtain ⟨w7, hw7⟩ : ∃ w7, (w6.setCell ⟨b, 10, none⟩ (.int .i64 2)).setCell ⟨b, 18, none⟩ (.int .i64 0) = w7 := ⟨_, rfl⟩
    rw [hw7] at q1 q2 q3 ⊢
    clear hw7 hnb c10 f10 c18 f18
    obtain ⟨T2, hT2⟩ : ∃ T2 : Tn, { P with state := 2, since := 0 } = T2 := ⟨_, rfl⟩
    have HT2 := Lib.hid hT2
    rw [hT2] at q1
    have HA2 : Hid (T2.tape.asks ≤ 900000) := by show _ ≤ _; rw [← hT2]; exact HA.out
    have HZ2 : Hid (T2.ask.1.secret.size ≤ 60) := by
      show _ ≤ _
      rw [← hT2, Tn.ask]
      split <;> exact HZ1.out
    have HL3 : Hid (T2.ask.2.length ≤ 1) := by
      show _ ≤ _
      rw [Tn.ask]
      split <;> simp
    have HR2 : Hid ((T2.ask.1.send 0 (l2 ++ T2.ask.2)).1 = R) := by show _ = _; rw [← HR.out, ← hT2]; rfl
    refine (task_any q1 HA2.out).mono ?_
    generalize T2.ask.2 = l3 at *
    generalize T2.ask.1 = T3 at *
    rintro e w8 ⟨⟨v3, o3, rfl, ho3, hn3⟩, at3, u3⟩
    obtain ⟨a3, c3, rfl, -, -⟩ := ho3.shape
    have hd3 : ∀ k ∈ op, k ∉ own1 := fun k hk hk2 => by have := HN6.out k hk; have := HNO.out k hk2; omega
    obtain ⟨ap9, cp9, w9, op9, hrun, ho9, hn9, hu9⟩ := app_avs (q3.upd u3 hd3) (AvsAt.of_own ho3) (by have := HL27.out; have := HL3.out; omega)
    have hat9 := at3.upd hu9 (fun k hk hk2 => hd3 k hk2 hk)
    have hU9 := (q2.trans u3).trans' hu9 (fun x hx => .inr (HN6.out x hx))
    have HS9 := Lib.hid (tsend_any hat9 0 (by omega) (l2 ++ l3) _ (AvsAt.of_own ho9) (by have := HZ2.out; omega))
    have HU9 := Lib.hid hU9
    have HRUN9 := Lib.hid hrun
    obtain ⟨ln3, hln3⟩ : ∃ n, l3.length = n := ⟨_, rfl⟩
    obtain ⟨ln9, hln9⟩ : ∃ n, (l2 ++ l3).length = n := ⟨_, rfl⟩
    rw [hln9] at HS9 HRUN9
    rw [hln3] at HRUN9
    rw [HLN2.out] at HRUN9
    rw [hln3]
    clear q1 q2 q3 hT2 ho3 hn3 at3 u3 hd3 hrun ho9 hn9 hu9 hat9 hU9 hln3 hln9
    go_wp2_with (at_builtin; refine wpList_append_step rfl (.tmp 34) (.tmp 36) 53 rfl _ _ _ _ (by simp [Act.eval]) (by simp [Act.eval]) HRUN9.out ?_)
    refine HS9.out.mono ?_
    rintro e w10 ⟨rfl, ⟨own1', at10, gr10⟩, u10⟩
    rw [HR2.out] at at10
    have HFIN : Hid (TunEnd w2 b own1 R (.tuple #[]) (.returned (.tuple #[])) w10) := ⟨rfl, ⟨own1', at10, fun k hk => (gr10 k hk).imp id (fun h => Nat.le_trans HU9.out.size h)⟩, HU9.out.trans u10⟩
    clear at10 gr10 u10
    go_wp2_with fail
    have k := S2.out.done HFIN.out
    exact bodyPost_ret (results_none rfl _ _ _) rfl k
end Go.Proofs.YtolfjfkkbhbbbaaGreat
