/- The walk of a tunnel's Tick. A tunnel's end stays in bounds, whatever it takes, says or ticks. Plain: no program in sight. -/
import Derived.Test.YtolfjfkkbhbbbaaGreatQTunT
namespace Go.Proofs.YtolfjfkkbhbbbaaGreat
open Go.RowKit
set_option linter.unusedSimpArgs false
set_option linter.unusedVariables false
set_option maxRecDepth 100000

/-- An end, and what has moved since the world w. -/
structure Tws (w W : World) (b : Nat) (t : Tn) (own0 own : List Nat) : Prop where
  at_ : TunAt W b t own
  u : Upd own0 w W
  gr : Grew w own0 own
  bm : b ∈ own0
section
variable {w W W' : World} {b : Nat} {t t' : Tn} {own0 own own' : List Nat}
theorem Tws.begin (h : TunAt w b t own) : Tws w w b t own own := ⟨h, Upd.refl _ _, Grew.refl _ _, h.mem⟩
theorem Tws.keep (h : Tws w W b t own0 own) (hu : Upd [] W W') : Tws w W' b t own0 own := ⟨h.at_.keep hu, h.u.trans (hu.mono (by simp)), h.gr, h.bm⟩
theorem Tws.sets (h : Tws w W b t own0 own) (i : Nat) (u : Value) (t' : Tn) (hc : ∀ vd vw, (t.cells vd vw).setIfInBounds i u = t'.cells vd vw)
    (ht : t'.tape = t.tape) (hw : t'.way = t.way) : Tws w (W.setCell ⟨b, i, none⟩ u) b t' own0 own := ⟨h.at_.set i u t' hc ht hw, h.u.setCell _ (.inl h.bm), h.gr, h.bm⟩
theorem Tws.next (h : Tws w W b t own0 own) (ha : TunAt W' b t' own') (hg : Grew W own own') (hu : Upd own W W') : Tws w W' b t' own0 own' :=
  ⟨ha, h.u.trans' hu (fun x hx => h.gr x hx), fun k hk => by rcases hg k hk with h1 | h1; exact h.gr k h1; exact .inr (Nat.le_trans h.u.size h1), h.bm⟩
theorem Tws.done {u : Value} {e : Ending} (h : Tws w W b t own0 own) (k : TunEnd W b own t' u e W') : TunEnd w b own0 t' u e W' := by
  obtain ⟨rfl, ⟨own', k1, k2⟩, k3⟩ := k
  have hn := h.next k1 k2 k3
  exact ⟨rfl, ⟨own', k1, hn.gr⟩, hn.u⟩
theorem Tws.ret (h : Tws w W b t own0 own) (u : Value) : TunEnd w b own0 t u (.returned u) W := ⟨rfl, ⟨own, h.at_, h.gr⟩, h.u⟩
end
theorem avs_nil_own (w : World) : AvsAt w (.slice none 0 0) [] := AvsAt.nil w

set_option maxHeartbeats 2000000 in
theorem ttick_any {w : World} {b : Nat} {t : Tn} {own : List Nat} (h : TunAt w b t own) (hz : t.secret.size ≤ 60) (hh : 1 ≤ t.hello ∧ t.hello ≤ 1000) (hq : 0 ≤ t.quiet ∧ t.quiet ≤ 1000000) (hs : 0 ≤ t.since ∧ t.since ≤ 1000000) :
    Calls Tryz.prog 28 #[.pointer (some ⟨b, 0, none⟩)] w (TunEnd w b own t.tick (.tuple #[])) := by
  have HT := Lib.hid h
  have HN := Lib.hid (tnone_at h)
  have c10 := h.state
  obtain ⟨R, hR⟩ : ∃ R, t.tick = R := ⟨_, rfl⟩
  have HR : Hid (R = if t.state = 4 then t
    else if t.way.tick.dead = true then { t with way := t.way.tick, state := 4 }
    else if t.state = 1 ∨ t.state = 2 then
      (if 3 * t.hello ≤ t.since + 1 then { t with way := t.way.tick, since := t.since + 1, state := 4, told := true } else { t with way := t.way.tick, since := t.since + 1 })
    else if t.state ≠ 3 then { t with way := t.way.tick }
    else if t.hello ≤ t.quiet + 1 then (({ t with way := t.way.tick, quiet := 0 } : Tn).send 0 [numAv 0 6 2]).1
    else { t with way := t.way.tick, quiet := t.quiet + 1 }) := by show _ = _; rw [← hR, Tn.tick]
  rw [hR]
  have HZ := Lib.hid hz
  obtain ⟨bw, ow, c9, hcw, hback⟩ := h.wayUp
  have HBK := Lib.hid hback
  have HTI := Lib.hid (tick_at hcw)
  clear hR h hz hback hcw
  by_cases t0 : t.state = 4
  case pos =>
    have T0 := Lib.hid t0
    rw [t0] at c10
    clear t0
    go_enter Tryz.func28, Tryz.ntmps28
    go_wp2_with fail
    refine HN.out.mono ?_
    rintro e w' ⟨rfl, rfl⟩
    go_wp2_with fail
    rw [HR.out, if_pos T0.out]
    exact bodyPost_ret (results_none rfl _ _ _) rfl ((Tws.begin HT.out).ret (.tuple #[]))
  have HR1 := Lib.hid (HR.out.trans (if_neg t0))
  have z0 : (t.state == 4) = false := beq_false_of_ne t0
  have T0 := Lib.hid t0
  clear HR t0
  go_enter Tryz.func28, Tryz.ntmps28
  go_wp2_with fail
  refine HN.out.mono ?_
  rintro e w' ⟨rfl, rfl⟩
  go_wp2_with fail
  refine HTI.out.mono ?_
  rintro e w1 ⟨rfl, k2, k3⟩
  obtain ⟨⟨own1, z1, z2⟩, z3⟩ := HBK.out w1 _ ow k2 (Grew.refl _ _) k3
  have S1 := Lib.hid ((Tws.begin HT.out).next z1 z2 z3)
  clear k2 k3 z1 z2 z3 c9 c10 HTI HBK
  obtain ⟨bw1, ow1, c9, hcw, -⟩ := S1.out.at_.wayUp
  have HDE := Lib.hid (dead_at hcw)
  obtain ⟨q1, hq1⟩ : ∃ x, t.way.tick = x := ⟨_, rfl⟩
  dsimp only at HDE
  rw [hq1] at HR1 HDE S1
  obtain ⟨de, hde⟩ : ∃ x, q1.dead = x := ⟨_, rfl⟩
  rw [hde] at HR1 HDE
  clear hde hcw hq1
  go_wp2_with fail
  refine HDE.out.mono ?_
  rintro e w' ⟨rfl, rfl⟩
  have c10 := S1.out.at_.state
  have f10 := S1.out.at_.frozen 10
  have c17 := S1.out.at_.cellAt 17 (.int .i64 t.quiet) (fun _ _ => rfl)
  have f17 := S1.out.at_.frozen 17
  have c18 := S1.out.at_.cellAt 18 (.int .i64 t.since) (fun _ _ => rfl)
  have f18 := S1.out.at_.frozen 18
  have c7 := S1.out.at_.cellAt 7 (.int .i64 t.hello) (fun _ _ => rfl)
  have c19 := S1.out.at_.cellAt 19 (.bool t.told) (fun _ _ => rfl)
  have f19 := S1.out.at_.frozen 19
  cases de
  case true =>
    have HRZ : Hid (R = { t with way := q1, state := 4 }) := by show _ = _; rw [HR1.out, if_pos rfl]
    go_wp2_with fail
    rw [HRZ.out]
    exact bodyPost_ret (results_none rfl _ _ _) rfl ((S1.out.sets 10 (.int .i64 4) { t with way := q1, state := 4 } (fun _ _ => rfl) rfl rfl).ret (.tuple #[]))
  have HR2 := Lib.hid (HR1.out.trans (if_neg (by simp)))
  clear HR1
  by_cases t1 : t.state = 1 ∨ t.state = 2
  case pos =>
    have HR3 := Lib.hid (HR2.out.trans (if_pos t1))
    clear HR2
    have S2 := Lib.hid (S1.out.sets 18 (.int .i64 (t.since + 1)) { t with way := q1, since := t.since + 1 } (fun _ _ => rfl) rfl rfl)
    rcases t1 with t1 | t1
    all_goals
      have T1 := Lib.hid t1
      rw [t1] at c10
      clear t1
      by_cases t2 : 3 * t.hello ≤ t.since + 1
      · have HRZ : Hid (R = { t with way := q1, since := t.since + 1, state := 4, told := true }) := HR3.out.trans (if_pos t2)
        go_wp2_with fail
        go_quiet (fail)
        go_wp2_with fail
        rw [HRZ.out]
        exact bodyPost_ret (results_none rfl _ _ _) rfl (((((S2.out.keep ((Upd.refl _ _).drewN _)).sets 10 (.int .i64 4) { t with way := q1, since := t.since + 1, state := 4 } (fun _ _ => rfl) rfl rfl).sets 19 (.bool true) { t with way := q1, since := t.since + 1, state := 4, told := true } (fun _ _ => rfl) rfl rfl)).ret (.tuple #[]))
      · have HRZ : Hid (R = { t with way := q1, since := t.since + 1 }) := HR3.out.trans (if_neg t2)
        go_wp2_with fail
        go_quiet (fail)
        go_wp2_with fail
        rw [HRZ.out]
        exact bodyPost_ret (results_none rfl _ _ _) rfl ((S2.out.keep ((Upd.refl _ _).drewN _)).ret (.tuple #[]))
  have z1 : (t.state == 1) = false := beq_false_of_ne (fun h => t1 (.inl h))
  have z2 : (t.state == 2) = false := beq_false_of_ne (fun h => t1 (.inr h))
  have HR3 := Lib.hid (HR2.out.trans (if_neg t1))
  clear HR2 t1
  by_cases t2 : t.state = 3
  case neg =>
    have z3 : (t.state != 3) = true := bne_iff_ne.2 t2
    have HRZ : Hid (R = { t with way := q1 }) := HR3.out.trans (if_pos t2)
    clear HR3 t2
    go_wp2_with fail
    rw [HRZ.out]
    exact bodyPost_ret (results_none rfl _ _ _) rfl (S1.out.ret (.tuple #[]))
  have z3 : (t.state != 3) = false := by rw [t2]; rfl
  have HR4 := Lib.hid (HR3.out.trans (if_neg (fun h => h t2)))
  have T2 := Lib.hid t2
  clear HR3 t2
  have S2 := Lib.hid (S1.out.sets 17 (.int .i64 (t.quiet + 1)) { t with way := q1, quiet := t.quiet + 1 } (fun _ _ => rfl) rfl rfl)
  by_cases t3 : t.hello ≤ t.quiet + 1
  · have HRZ : Hid (R = (({ t with way := q1, quiet := 0 } : Tn).send 0 [numAv 0 6 2]).1) := HR4.out.trans (if_pos t3)
    go_wp2_with fail
    go_quiet (fail)
    go_wp2_with fail
    have S3 := Lib.hid ((S2.out.keep ((Upd.refl _ _).drewN nq)).sets 17 (.int .i64 0) { t with way := q1, quiet := 0 } (fun _ _ => rfl) rfl rfl)
    have HZ3 : Hid (({ t with way := q1, quiet := 0 } : Tn).secret.size ≤ 60) := HZ.out
    generalize ({ t with way := q1, quiet := 0 } : Tn) = T3 at *
    refine (make_any 6 [] (.slice none 0 0) _ (AvsAt.nil _) (by simp)).mono ?_
    rintro e w6 ⟨u, o6, rfl, ho6, -, hu6⟩
    have ho7 : Own w6 51 5 u [numAv 0 6 2].length (avCells [numAv 0 6 2]) o6 := ho6
    obtain ⟨a6, c6, rfl, -, -⟩ := ho7.shape
    have S4 := Lib.hid (S3.out.keep hu6)
    have HS6 := Lib.hid (tsend_any S4.out.at_ 0 (by omega) [numAv 0 6 2] _ (AvsAt.of_own ho7) (by have := HZ3.out; omega))
    clear ho6 ho7 hu6
    simp only [List.length_cons, List.length_nil, Nat.zero_add] at HS6 ⊢
    go_wp2_with fail
    refine HS6.out.mono ?_
    rintro e w7 k6
    obtain ⟨rfl, k6⟩ : e = _ ∧ _ := ⟨k6.e, k6⟩
    rw [← HRZ.out] at k6
    go_wp2_with fail
    have k := S4.out.done k6
    exact bodyPost_ret (results_none rfl _ _ _) rfl ⟨rfl, k.ex, k.upd⟩
  · have HRZ : Hid (R = { t with way := q1, quiet := t.quiet + 1 }) := HR4.out.trans (if_neg t3)
    go_wp2_with fail
    go_quiet (fail)
    go_wp2_with fail
    rw [HRZ.out]
    exact bodyPost_ret (results_none rfl _ _ _) rfl ((S2.out.keep ((Upd.refl _ _).drewN _)).ret (.tuple #[]))
end Go.Proofs.YtolfjfkkbhbbbaaGreat
namespace Go.Proofs.YtolfjfkkbhbbbaaGreat
open Go.RowKit
set_option linter.unusedSimpArgs false
set_option linter.unusedVariables false

def Bod (l : List ByteArray) : Prop := ∀ x ∈ l, 2 ≤ x.size ∧ x.size ≤ 1500
/-- In bounds, and for N more steps. -/
structure Tn.Good (N : Nat) (t : Tn) : Prop where
  nw : NewOk t.window t.queue t.retry t.wait 0
  secret : t.secret.size ≤ 60
  asked : t.asked.size ≤ 400000
  asks : t.tape.asks + 24 * (N : Int) ≤ 800000
  id : 0 ≤ t.id ∧ t.id < 65536
  waits : Bod t.way.waits
  flies : Bod t.way.flies
  hello : 1 ≤ t.hello ∧ t.hello ≤ 1000
  quiet : 0 ≤ t.quiet ∧ t.quiet + (N : Int) ≤ 1000000
  since : 0 ≤ t.since ∧ t.since + (N : Int) ≤ 1000000
theorem Tn.Good.less {N M : Nat} {t : Tn} (h : t.Good N) (hm : M ≤ N) : t.Good M :=
  ⟨h.nw, h.secret, h.asked, by have := h.asks; omega, h.id, h.waits, h.flies, h.hello, by have := h.quiet; omega, by have := h.since; omega⟩

/-! ### the channel's bodies -/
theorem C.ackLoop_flies (nr : Int) : ∀ (n : Nat) (c : C), ∀ x ∈ (C.ackLoop nr n c).flies, x ∈ c.flies := by
  intro n
  induction n with
  | zero => intro c x h; exact h
  | succ n ih =>
    intro c x h
    rw [C.ackLoop] at h
    split at h
    · have := ih _ x h
      rw [C.pop_flies] at this
      exact List.mem_of_mem_tail this
    · exact h
theorem C.acked_flies (c : C) (nr : Int) : ∀ x ∈ (c.acked nr).flies, x ∈ c.flies := by
  unfold C.acked
  split
  · exact fun x h => h
  · exact C.ackLoop_flies nr _ _
theorem C.take_bod (c : C) (ns nr : Int) (body : ByteArray) : (c.take ns nr body).1.waits = c.waits ∧ ∀ x ∈ (c.take ns nr body).1.flies, x ∈ c.flies := by
  have h1 := C.acked_waits c nr
  have h2 := C.acked_flies c nr
  unfold C.take
  split
  · exact ⟨rfl, fun x h => h⟩
  split
  · exact ⟨h1, h2⟩
  split
  · exact ⟨h1, h2⟩
  · exact ⟨h1, h2⟩
theorem hd_mem {l : List ByteArray} (h : 0 < l.length) : hd l ∈ l := by
  cases l with
  | nil => simp at h
  | cons a r => simp [hd]
theorem C.outLoop_bod : ∀ (n : Nat) (p : C × List Item), Bod p.1.waits → Bod p.1.flies → Bod (C.outLoop n p).1.waits ∧ Bod (C.outLoop n p).1.flies := by
  intro n
  induction n with
  | zero => intro p h1 h2; exact ⟨h1, h2⟩
  | succ n ih =>
    rintro ⟨c, l⟩ h1 h2
    rw [C.outLoop]
    split
    · rename_i hc
      refine ih _ (fun x hx => h1 x (List.mem_of_mem_tail hx)) (fun x hx => ?_)
      rcases List.mem_append.1 hx with h | h
      · exact h2 x h
      · simp at h; subst h; exact h1 _ (hd_mem hc.1)
    · exact ⟨h1, h2⟩
theorem C.out_bod {c : C} (h1 : Bod c.waits) (h2 : Bod c.flies) : Bod c.out.1.waits ∧ Bod c.out.1.flies := by
  unfold C.out
  split
  · exact ⟨h1, h2⟩
  · exact C.outLoop_bod _ _ h1 h2
theorem C.tick_bod (c : C) : c.tick.waits = c.waits ∧ c.tick.flies = c.flies := by
  unfold C.tick
  (repeat' split) <;> exact ⟨rfl, rfl⟩
theorem C.send_bod {c : C} {body : ByteArray} (h1 : Bod c.waits) (h2 : Bod c.flies) (hb : 2 ≤ body.size ∧ body.size ≤ 1500) : Bod (c.send body).1.waits ∧ Bod (c.send body).1.flies := by
  unfold C.send
  split
  · exact ⟨h1, h2⟩
  split
  · exact ⟨h1, h2⟩
  split
  · exact ⟨h1, h2⟩
  · refine ⟨fun x hx => ?_, h2⟩
    rcases List.mem_append.1 hx with h | h
    · exact h1 x h
    · simp at h; subst h; exact hb

/-! ### the end -/
variable {N : Nat} {t : Tn}
theorem Tn.Good.send (h : t.Good N) (s : Int) (l : List Av) : (t.send s l).1.Good N := by
  unfold Tn.send
  split
  · exact h
  · rename_i he
    have hp := putA_ok (l := l) (secret := t.secret) (by simpa using he)
    have hb := C.send_bod (body := be 2 s ++ (putA l t.secret).1) h.waits h.flies (by rw [ByteArray.size_append, be_size, hp.2.2.1]; have := hp.2.2.2; omega)
    exact ⟨h.nw, h.secret, h.asked, h.asks, h.id, hb.1, hb.2, h.hello, h.quiet, h.since⟩
theorem Tn.Good.state (h : t.Good N) (s : Int) : ({ t with state := s } : Tn).Good N := ⟨h.nw, h.secret, h.asked, h.asks, h.id, h.waits, h.flies, h.hello, h.quiet, h.since⟩
theorem Tn.Good.end_ (h : t.Good N) (k : Int) : (t.end_ k).Good N := (h.send 0 (t.endL k)).state 4
theorem Tn.Good.sayAsk (h : t.Good N) (ha : t.tape.asks + 16 + 24 * (N : Int) ≤ 800000) (st : Int) (l : List Av) : (t.sayAsk st l).Good N := by
  unfold Tn.sayAsk
  refine Tn.Good.send ?_ _ _
  unfold Tn.ask
  have hs := h.since
  split
  · exact ⟨h.nw, h.secret, h.asked, h.asks, h.id, h.waits, h.flies, h.hello, h.quiet, by dsimp only; omega⟩
  · refine ⟨h.nw, h.secret, ?_, ?_, h.id, h.waits, h.flies, h.hello, h.quiet, by dsimp only; omega⟩
    · show (t.tape.str 16).size ≤ _; rw [Tp.str_size]; omega
    · show (Tp.after 16 t.tape).asks + _ ≤ _
      have := (Tp.after_asks 16 t.tape).2
      omega
theorem Tn.Good.open_ (h : t.Good (N + 1)) : t.open_.1.Good N := by
  unfold Tn.open_
  split
  · exact h.less (by omega)
  · have ha := h.asks
    have hb := (Tp.after_asks 8 t.tape).2
    have hl := h.less (M := N) (by omega)
    show (t.open1.sayAsk 1 (t.open1.about 1 ++ [txtAv 5 (t.tape.str 8)])).Good N
    have ht : t.open1.tape.asks ≤ t.tape.asks + 8 := hb
    have hg : t.open1.Good N := ⟨hl.nw, hl.secret, hl.asked, by omega, hl.id, hl.waits, hl.flies, hl.hello, hl.quiet, hl.since⟩
    generalize t.open1 = T at *
    exact hg.sayAsk (by omega) _ _
theorem valueB_two {s : ByteArray} (h : s.size = 2) : 0 ≤ (valueB s).1 ∧ (valueB s).1 < 65536 := by
  have hb := num_bd s 0 2
  rw [valueB, if_neg (by omega), h]
  generalize num s 0 2 = x at hb
  dsimp only
  omega
theorem badOf_mem : ∀ {l : List Av}, badOf l = 0 → ∀ a ∈ l, wrongAv a = 0
  | [], _, a, h => by simp at h
  | x :: r, hb, a, h => by
    rw [badOf] at hb
    split at hb
    · rename_i hx
      rcases List.mem_cons.1 h with rfl | h
      · exact hx
      · exact badOf_mem hb a h
    · rename_i hx; exact absurd hb hx
theorem number9 {l : List Av} (hk : kindOf l = 1 ∨ kindOf l = 2) (hc : checkOf l = 0) : 0 ≤ (numberAv l 9).1 ∧ (numberAv l 9).1 < 65536 := by
  unfold numberAv
  split
  · exact ⟨by simp, by simp⟩
  rename_i hf
  refine valueB_two ?_
  cases l with
  | nil => simp [kindOf] at hk
  | cons a r =>
    have ha : a.kind = 0 := by
      simp only [kindOf] at hk
      split at hk
      · rcases hk with h | h <;> cases h
      · rename_i h
        exact Classical.byContradiction fun h0 => h (.inr (.inl h0))
    have hb : badOf r = 0 := by
      simp only [checkOf] at hc
      split at hc
      · cases hc
      · split at hc
        · rename_i h; exact h
        · rename_i h; exact absurd hc h
    have hn : avIs 9 a = false := by simp [avIs, ha]
    unfold findAv at hf ⊢
    rw [List.find?_cons, hn] at hf ⊢
    dsimp only at hf ⊢
    cases hx : r.find? (avIs 9) with
    | none => rw [hx] at hf; simp at hf
    | some x =>
      dsimp only
      have h1 := badOf_mem hb x (List.mem_of_find?_eq_some hx)
      have h2 := List.find?_some hx
      simp only [avIs, Bool.and_eq_true, beq_iff_eq] at h2
      unfold wrongAv at h1
      have h9 : avpLen 9 = 2 := by decide
      rw [h2.2, h9, if_neg (by rintro (h | h); exact h h2.1; cases h)] at h1
      split at h1
      · cases h1
      · rename_i h
        have : (x.val.size : Int) = 2 := Classical.byContradiction fun h0 => h (.inl ⟨by omega, h0⟩)
        omega
theorem Tn.Good.heard (h : t.Good N) {l : List Av} (hn : 0 ≤ (numberAv l 9).1 ∧ (numberAv l 9).1 < 65536) : (t.heard l).Good N := by
  unfold Tn.heard
  refine ⟨h.nw, h.secret, h.asked, h.asks, hn, ?_, ?_, h.hello, h.quiet, h.since⟩
  · dsimp only; split <;> exact h.waits
  · dsimp only; split <;> exact h.flies
theorem Tn.Good.who (h : t.Good N) {l : List Av} (hn : 0 ≤ (numberAv l 9).1 ∧ (numberAv l 9).1 < 65536) : (t.who l).1.Good N := by
  unfold Tn.who
  split
  · exact (h.heard hn).end_ 2
  · exact h.heard hn
theorem Tn.Good.handle (h : t.Good (N + 1)) (c : Cm) : (t.handle c).1.Good N := by
  have hl := h.less (M := N) (by omega)
  have ha := h.asks
  unfold Tn.handle
  split
  · split <;> exact hl
  split
  · exact hl.end_ 2
  rename_i hck
  have hck : checkOf c.l = 0 := Classical.byContradiction fun h0 => hck h0
  split
  · rename_i hk
    have hn := number9 (.inl hk.1) hck
    have hw := hl.who hn
    have hta : (t.who c.l).1.tape = t.tape := by
      unfold Tn.who
      split
      · rw [Tn.end_kept]; rfl
      · rfl
    show (t.opened c.l).Good N
    unfold Tn.opened
    split
    · exact hw
    · unfold Tn.opened1
      split
      · exact hw.end_ 4
      · exact hw.sayAsk (by rw [hta]; omega) _ _
  split
  · rename_i hk
    have hn := number9 (.inr hk.1) hck
    have hw := hl.who hn
    show (t.replied c.l).Good N
    unfold Tn.replied
    split
    · exact hw
    · unfold Tn.replied1
      split
      · exact hw.end_ 4
      · exact (hw.state 3).send _ _
  split
  · show (t.connected c.l).Good N
    unfold Tn.connected
    split
    · exact hl.end_ 4
    · exact hl.state 3
  split
  · exact hl.state 4
  · exact hl
theorem Tn.Good.hear (h : t.Good (N + 1)) (c : Cm) (body : ByteArray) : (t.hear c body).1.Good N := by
  have hb := C.take_bod t.way c.ns c.nr body
  have hq : ({ t with quiet := 0, way := (t.way.take c.ns c.nr body).1 } : Tn).Good (N + 1) :=
    ⟨h.nw, h.secret, h.asked, h.asks, h.id, by show Bod (t.way.take c.ns c.nr body).1.waits; rw [hb.1]; exact h.waits, fun x hx => h.flies x (hb.2 x hx), h.hello, by dsimp only; have := h.quiet; omega, h.since⟩
  unfold Tn.hear
  split
  · exact hq.less (by omega)
  · exact hq.handle c
theorem Tn.Good.yields (h : t.Good N) (c : Cm) : (t.yields c).1.Good N := by
  unfold Tn.yields
  split
  · exact h
  split
  · exact ⟨h.nw, h.secret, h.asked, h.asks, h.id, h.waits, h.flies, h.hello, h.quiet, h.since⟩
  · exact ⟨h.nw, h.secret, h.asked, h.asks, h.id, by intro x hx; simp [Tn.anew, C.new] at hx, by intro x hx; simp [Tn.anew, C.new] at hx, h.hello, h.quiet, h.since⟩
theorem Tn.Good.take (h : t.Good (N + 1)) (b : ByteArray) : (t.take b).1.Good N := by
  have hl := h.less (M := N) (by omega)
  unfold Tn.take
  split
  · exact hl
  split
  · exact hl
  unfold Tn.takeM
  split
  · exact hl
  split
  · split
    · exact (h.yields _).less (by omega)
    · exact (h.yields _).hear _ _
  · exact h.hear _ _
theorem Tn.Good.out (h : t.Good N) : t.out.1.Good N := by
  have hb := C.out_bod h.waits h.flies
  unfold Tn.out
  split
  · exact h
  · exact ⟨h.nw, h.secret, h.asked, h.asks, h.id, hb.1, hb.2, h.hello, h.quiet, h.since⟩
theorem Tn.Good.tick (h : t.Good (N + 1)) : t.tick.Good N := by
  have hb := C.tick_bod t.way
  have hl := h.less (M := N) (by omega)
  have hs := h.since
  have hq := h.quiet
  have hw : Bod t.way.tick.waits := by rw [hb.1]; exact h.waits
  have hf : Bod t.way.tick.flies := by rw [hb.2]; exact h.flies
  unfold Tn.tick
  split
  · exact hl
  split
  · exact ⟨hl.nw, hl.secret, hl.asked, hl.asks, hl.id, hw, hf, hl.hello, hl.quiet, hl.since⟩
  split
  · split
    · exact ⟨hl.nw, hl.secret, hl.asked, hl.asks, hl.id, hw, hf, hl.hello, hl.quiet, by dsimp only; omega⟩
    · exact ⟨hl.nw, hl.secret, hl.asked, hl.asks, hl.id, hw, hf, hl.hello, hl.quiet, by dsimp only; omega⟩
  split
  · exact ⟨hl.nw, hl.secret, hl.asked, hl.asks, hl.id, hw, hf, hl.hello, hl.quiet, hl.since⟩
  split
  · refine Tn.Good.send ?_ _ _
    exact ⟨hl.nw, hl.secret, hl.asked, hl.asks, hl.id, hw, hf, hl.hello, by dsimp only; omega, hl.since⟩
  · exact ⟨hl.nw, hl.secret, hl.asked, hl.asks, hl.id, hw, hf, hl.hello, by dsimp only; omega, hl.since⟩
theorem Tn.Good.sendP (h : t.Good N) (s : Int) (l : List Av) : (t.sendP s l).1.Good N := by
  unfold Tn.sendP
  split
  · exact h
  split
  · exact h
  · exact h.send s l
theorem Tn.Good.close (h : t.Good N) : t.close.Good N := by
  unfold Tn.close
  split
  · exact h
  split
  · exact ⟨h.nw, h.secret, h.asked, h.asks, h.id, h.waits, h.flies, h.hello, h.quiet, h.since⟩
  · exact h.end_ 1
theorem Tn.new_good (name secret : ByteArray) (cid window queue retry wait hello : Int) (tp : Tp) (h3 : secret.size ≤ 60) (h6 : 1 ≤ hello) (h7 : hello ≤ 1000) (nw : NewOk window queue retry wait 0) (ha : tp.asks = 0) (hN : N ≤ 30000) :
    (Tn.new name secret cid window queue retry wait hello tp).Good N :=
  ⟨nw, h3, by show ByteArray.size ⟨#[]⟩ ≤ _; exact Nat.zero_le _, by show tp.asks + _ ≤ _; omega, ⟨Int.le_refl _, by show (0 : Int) < _; omega⟩, by intro x hx; simp [Tn.new, C.new] at hx, by intro x hx; simp [Tn.new, C.new] at hx, ⟨h6, h7⟩,
    ⟨Int.le_refl _, by show (0 : Int) + _ ≤ _; omega⟩, ⟨Int.le_refl _, by show (0 : Int) + _ ≤ _; omega⟩⟩
end Go.Proofs.YtolfjfkkbhbbbaaGreat
