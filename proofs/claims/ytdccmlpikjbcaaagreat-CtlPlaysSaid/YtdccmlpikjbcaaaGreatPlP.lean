/- What CtlPlays holds between its steps: the program's channel, the document's, the book. -/
import Derived.Test.YtdccmlpikjbcaaaGreatRCtlH
import Derived.Test.YtdccmlpikjbcaaaGreatBkApTI
namespace Go.Proofs.YtdccmlpikjbcaaaGreat
open Go.RowKit
set_option linter.unusedSimpArgs false
set_option linter.unusedVariables false
set_option maxRecDepth 100000

theorem strs_flat (l : List ByteArray) : l.flatMap bkCTexts = strs l := by
  induction l with
  | nil => rfl
  | cons b l ih => rw [List.flatMap_cons, ih]; rfl
theorem items_flat (l : List Item) : l.flatMap bkCItems = items l := rfl
theorem CtlAt.updT {T : List TypeId} {lo : Nat} {w w' : World} {b : Nat} {c : C} {own : List Nat} (h : CtlAt w b c own) (hu : UpdT T lo w w') (h1 : 81 ∉ T) (h2 : 9 ∉ T) : CtlAt w' b c own := by
  obtain ⟨ok, vw, vf, ow, of, k1, k2, k3, k4, rfl⟩ := h
  exact ⟨ok, vw, vf, ow, of, k1.updT hu h1, k2.updT hu h2, k3.updT hu h2, k4, rfl⟩
theorem RAt.updT {T : List TypeId} {lo : Nat} {w w' : World} {b : Nat} {c : C} {own : List Nat} (h : RAt w b c own) (hu : UpdT T lo w w') (h1 : 74 ∉ T) (h2 : 9 ∉ T) (h3 : 86 ∉ T) : RAt w' b c own := by
  obtain ⟨ok, vw, vf, ow, of, k1, k2, k3, rfl⟩ := h
  exact ⟨ok, vw, vf, ow, of, k1.updT hu h1, k2.updT hu h2, k3.updT hu h3, rfl⟩
theorem CtlAt.off {w : World} {b : Nat} {c : C} {own : List Nat} (h : CtlAt w b c own) {g : Nat} {t : TypeId} {cs : Array Value} (hb : Blk w g t cs) (h1 : t ≠ 9) (h2 : t ≠ 81) : g ∉ own := by
  obtain ⟨ok, vw, vf, ow, of, k1, k2, k3, k4, rfl⟩ := h
  simp only [List.mem_cons, List.mem_append, not_or]
  exact ⟨fun e => hb.ne_ k1 h2 e, k2.ne_blk hb (Ne.symm h1), k3.ne_blk hb (Ne.symm h1)⟩
theorem RAt.off {w : World} {b : Nat} {c : C} {own : List Nat} (h : RAt w b c own) {g : Nat} {t : TypeId} {cs : Array Value} (hb : Blk w g t cs) (h1 : t ≠ 9) (h2 : t ≠ 74) (h3 : t ≠ 86) : g ∉ own := by
  obtain ⟨ok, vw, vf, ow, of, k1, k2, k3, rfl⟩ := h
  simp only [List.mem_cons, List.mem_append, not_or]
  exact ⟨fun e => hb.ne_ k1 h2 e, k2.ne_blk hb (Ne.symm h1), k3.ne_blk hb (Ne.symm h3)⟩

structure Pl (w0 w : World) (b b' g : Nat) (c d : C) (own own' : List Nat) (RT : List (Bit ByteArray)) (RI : List (Bit Item)) : Prop where
  a : CtlAt w b c own
  r : RAt w b' d own'
  na : New w0 own
  nr : New w0 own'
  ap : ∀ k ∈ own, k ∉ own'
  bk : BkTI (own ++ own') w0 w g RT RI
section
variable {w0 w w' : World} {b b' g : Nat} {c d c1 d1 : C} {own own' own1 : List Nat} {RT : List (Bit ByteArray)} {RI : List (Bit Item)}
theorem Pl.keep (h : Pl w0 w b b' g c d own own' RT RI) (hu : Upd [] w w') : Pl w0 w' b b' g c d own own' RT RI := ⟨h.a.keep hu, h.r.keep hu, h.na, h.nr, h.ap, h.bk.upd hu⟩
theorem Pl.stepA (h : Pl w0 w b b' g c d own own' RT RI) (ha : CtlAt w' b c1 own1) (hg : Grew w own own1) (hu : Upd own w w') : Pl w0 w' b b' g c1 d own1 own' RT RI := by
  refine ⟨ha, h.r.upd hu (fun k hk hk2 => h.ap k hk2 hk), h.na.grew hg h.bk.ups.size, h.nr, ?_, ?_⟩
  · intro k hk hk2
    rcases hg k hk with h1 | h1
    · exact h.ap k h1 hk2
    · have := h.r.lt k hk2; omega
  · have h1 := h.bk.off (X' := own ++ own1 ++ own') (fun k hk => by
      simp only [List.mem_append] at hk ⊢
      rcases hk with (hk | hk) | hk
      · exact .inl (.inl hk)
      · rcases hg k hk with h1 | h1
        · exact .inl (.inl h1)
        · exact .inr h1
      · exact .inl (.inr hk))
    have h2 := h1.updX (hu.mono (by intro x hx; simp [hx])) (fun k hk => by
      simp only [List.mem_append] at hk
      rcases hk with (hk | hk) | hk
      · exact h.na k hk
      · exact h.na.grew hg h.bk.ups.size k hk
      · exact h.nr k hk)
    exact h2.off (fun k hk => .inl (by simp only [List.mem_append] at hk ⊢; rcases hk with hk | hk; exact .inl (.inr hk); exact .inr hk))
theorem Pl.stepR (h : Pl w0 w b b' g c d own own' RT RI) (hr : RAt w' b' d1 own1) (hg : Grew w own' own1) (hu : Upd own' w w') : Pl w0 w' b b' g c d1 own own1 RT RI := by
  refine ⟨h.a.upd hu (fun k hk hk2 => h.ap k hk hk2), hr, h.na, h.nr.grew hg h.bk.ups.size, ?_, ?_⟩
  · intro k hk hk2
    rcases hg k hk2 with h1 | h1
    · exact h.ap k hk h1
    · have := h.a.lt k hk; omega
  · have h1 := h.bk.off (X' := own ++ (own' ++ own1)) (fun k hk => by
      simp only [List.mem_append] at hk ⊢
      rcases hk with hk | hk | hk
      · exact .inl (.inl hk)
      · exact .inl (.inr hk)
      · rcases hg k hk with h1 | h1
        · exact .inl (.inr h1)
        · exact .inr h1)
    have h2 := h1.updX (hu.mono (by intro x hx; simp [hx])) (fun k hk => by
      simp only [List.mem_append] at hk
      rcases hk with hk | hk | hk
      · exact h.na k hk
      · exact h.nr k hk
      · exact h.nr.grew hg h.bk.ups.size k hk)
    exact h2.off (fun k hk => .inl (by simp only [List.mem_append] at hk ⊢; rcases hk with hk | hk; exact .inl hk; exact .inr (.inr hk)))
theorem Pl.lt (h : Pl w0 w b b' g c d own own' RT RI) : ∀ k ∈ own ++ own', k < w.heap.size := by
  intro k hk
  rcases List.mem_append.1 hk with hk | hk
  · exact h.a.lt k hk
  · exact h.r.lt k hk
end

/-- With the box of the loop's variable. -/
structure PlB (w0 w : World) (b b' g gO : Nat) (cs : Array Value) (c d : C) : Prop where
  ex : ∃ own own' RT RI, Pl w0 w b b' g c d own own' RT RI
  box : Blk w gO 55 cs
/-- .. and texts that were told. -/
structure PlT (w0 w : World) (b b' g gO : Nat) (cs : Array Value) (c d : C) (v : Value) (l : List ByteArray) : Prop where
  ex : ∃ own own' RT RI ol, Pl w0 w b b' g c d own own' RT RI ∧ (∀ k ∈ ol, k ∉ own) ∧ (∀ k ∈ ol, k ∉ own') ∧ Own w 9 1 v l.length (strs l) ol ∧ (∀ k ∈ ol, w0.heap.size ≤ k) ∧ (∀ e ∈ RT, ∀ k ∈ e.own, k ∉ ol)
  box : Blk w gO 55 cs
structure PlT2 (w0 w : World) (b b' g gO : Nat) (cs : Array Value) (c d : C) (v v' : Value) (l : List ByteArray) : Prop where
  t : PlT w0 w b b' g gO cs c d v l
  o : ∃ ol, Own w 9 1 v' l.length (strs l) ol
/-- .. and messages that were told. -/
structure PlI (w0 w : World) (b b' g gO : Nat) (cs : Array Value) (c d : C) (v : Value) (l : List Item) : Prop where
  ex : ∃ own own' RT RI ol, Pl w0 w b b' g c d own own' RT RI ∧ Own w 53 3 v l.length (items l) ol ∧ (∀ k ∈ ol, w0.heap.size ≤ k) ∧ (∀ e ∈ RI, ∀ k ∈ e.own, k ∉ ol)
  box : Blk w gO 55 cs
structure PlI2 (w0 w : World) (b b' g gO : Nat) (cs : Array Value) (c d : C) (v v' : Value) (l : List Item) : Prop where
  t : PlI w0 w b b' g gO cs c d v l
  o : ∃ ol, Own w 60 3 v' l.length (items l) ol
section
variable {w0 w w' : World} {b b' g gO : Nat} {cs : Array Value} {c d : C}
theorem PlB.keep (h : PlB w0 w b b' g gO cs c d) (hu : Upd [] w w') : PlB w0 w' b b' g gO cs c d := by
  obtain ⟨⟨own, own', RT, RI, hp⟩, hb⟩ := h
  exact ⟨⟨own, own', RT, RI, hp.keep hu⟩, hb.upd hu (by simp)⟩
theorem PlB.ups (h : PlB w0 w b b' g gO cs c d) : Upd [] w0 w := by
  obtain ⟨⟨own, own', RT, RI, hp⟩, hb⟩ := h
  exact hp.bk.ups
theorem PlT.keep {v : Value} {l : List ByteArray} (h : PlT w0 w b b' g gO cs c d v l) (hu : Upd [] w w') : PlT w0 w' b b' g gO cs c d v l := by
  obtain ⟨⟨own, own', RT, RI, ol, hp, n1, n2, ho, n3, n4⟩, hb⟩ := h
  exact ⟨⟨own, own', RT, RI, ol, hp.keep hu, n1, n2, ho.updD hu, n3, n4⟩, hb.upd hu (by simp)⟩
theorem PlB.boxA {own own' : List Nat} {RT : List (Bit ByteArray)} {RI : List (Bit Item)} (hp : Pl w0 w b b' g c d own own' RT RI) (hb : Blk w gO 55 cs) (hu : Upd own w w') : Blk w' gO 55 cs :=
  hb.upd hu (hp.a.off hb (by decide) (by decide))
theorem PlB.boxR {own own' : List Nat} {RT : List (Bit ByteArray)} {RI : List (Bit Item)} (hp : Pl w0 w b b' g c d own own' RT RI) (hb : Blk w gO 55 cs) (hu : Upd own' w w') : Blk w' gO 55 cs :=
  hb.upd hu (hp.r.off hb (by decide) (by decide) (by decide))
theorem PlB.send (h : PlB w0 w b b' g gO cs c d) (body : ByteArray) : Calls Tryz.prog 7 #[.pointer (some ⟨b, 0, none⟩), .string body] w fun e w' => e = .returned (.int .i64 (c.send body).2) ∧ PlB w0 w' b b' g gO cs (c.send body).1 d := by
  obtain ⟨⟨own, own', RT, RI, hp⟩, hb⟩ := h
  refine (send_at hp.a body).mono ?_
  rintro e w' ⟨rfl, ⟨own1, h1, h2⟩, h3⟩
  exact ⟨rfl, ⟨own1, own', RT, RI, hp.stepA h1 h2 h3⟩, PlB.boxA hp hb h3⟩
theorem PlB.rsend (h : PlB w0 w b b' g gO cs c d) (body : ByteArray) : Calls Tryz.prog 8 #[.pointer (some ⟨b', 0, none⟩), .string body] w fun e w' => e = .returned (.int .i64 (d.send body).2) ∧ PlB w0 w' b b' g gO cs c (d.send body).1 := by
  obtain ⟨⟨own, own', RT, RI, hp⟩, hb⟩ := h
  refine (rsend_at hp.r body).mono ?_
  rintro e w' ⟨rfl, ⟨own1, h1, h2⟩, h3⟩
  exact ⟨rfl, ⟨own, own1, RT, RI, hp.stepR h1 h2 h3⟩, PlB.boxR hp hb h3⟩
theorem PlB.win (h : PlB w0 w b b' g gO cs c d) (n : Int) : Calls Tryz.prog 16 #[.pointer (some ⟨b, 0, none⟩), .int .i64 n] w fun e w' => e = .returned (.int .i64 (c.win n).2) ∧ PlB w0 w' b b' g gO cs (c.win n).1 d := by
  obtain ⟨⟨own, own', RT, RI, hp⟩, hb⟩ := h
  refine (win_at hp.a n).mono ?_
  rintro e w' ⟨rfl, h1, h3⟩
  exact ⟨rfl, ⟨own, own', RT, RI, hp.stepA h1 (.refl _ _) h3⟩, PlB.boxA hp hb h3⟩
theorem PlB.rwin (h : PlB w0 w b b' g gO cs c d) (n : Int) : Calls Tryz.prog 17 #[.pointer (some ⟨b', 0, none⟩), .int .i64 n] w fun e w' => e = .returned (.int .i64 (d.win n).2) ∧ PlB w0 w' b b' g gO cs c (d.win n).1 := by
  obtain ⟨⟨own, own', RT, RI, hp⟩, hb⟩ := h
  refine (rwin_at hp.r n).mono ?_
  rintro e w' ⟨rfl, h1, h3⟩
  exact ⟨rfl, ⟨own, own', RT, RI, hp.stepR h1 (.refl _ _) h3⟩, PlB.boxR hp hb h3⟩
theorem PlB.tick (h : PlB w0 w b b' g gO cs c d) : Calls Tryz.prog 14 #[.pointer (some ⟨b, 0, none⟩)] w fun e w' => e = .returned (.tuple #[]) ∧ PlB w0 w' b b' g gO cs c.tick d := by
  obtain ⟨⟨own, own', RT, RI, hp⟩, hb⟩ := h
  refine (tick_at hp.a).mono ?_
  rintro e w' ⟨rfl, h1, h3⟩
  exact ⟨rfl, ⟨own, own', RT, RI, hp.stepA h1 (.refl _ _) h3⟩, PlB.boxA hp hb h3⟩
theorem PlB.rtick (h : PlB w0 w b b' g gO cs c d) : Calls Tryz.prog 15 #[.pointer (some ⟨b', 0, none⟩)] w fun e w' => e = .returned (.tuple #[]) ∧ PlB w0 w' b b' g gO cs c d.tick := by
  obtain ⟨⟨own, own', RT, RI, hp⟩, hb⟩ := h
  refine (rtick_at hp.r).mono ?_
  rintro e w' ⟨rfl, h1, h3⟩
  exact ⟨rfl, ⟨own, own', RT, RI, hp.stepR h1 (.refl _ _) h3⟩, PlB.boxR hp hb h3⟩
theorem PlB.take (h : PlB w0 w b b' g gO cs c d) (ns nr : Int) (body : ByteArray) (hs : body.size ≤ 281474976710656) :
    Calls Tryz.prog 9 #[.pointer (some ⟨b, 0, none⟩), .agg #[.int .i64 ns, .int .i64 nr, .string body]] w fun e w' => ∃ v, e = .returned v ∧ PlT w0 w' b b' g gO cs (c.take ns nr body).1 d v (c.take ns nr body).2 := by
  obtain ⟨⟨own, own', RT, RI, hp⟩, hb⟩ := h
  refine (take_at hp.a ns nr body hs).mono ?_
  rintro e w' ⟨⟨v, ol, rfl, h1, h2⟩, h3, h4⟩
  refine ⟨v, rfl, ⟨own, own', RT, RI, ol, hp.stepA h3 (.refl _ _) h4, ?_, ?_, h1, ?_, ?_⟩, PlB.boxA hp hb h4⟩
  · intro k hk hk2; have := h2 k hk; have := hp.a.lt k hk2; omega
  · intro k hk hk2; have := h2 k hk; have := hp.r.lt k hk2; omega
  · intro k hk; exact Nat.le_trans hp.bk.ups.size (h2 k hk)
  · intro e he k hk hk2; have := h2 k hk2; have := hp.bk.ltTexts e he k hk; omega
theorem PlT.rtake {v : Value} {l : List ByteArray} (h : PlT w0 w b b' g gO cs c d v l) (ns nr : Int) (body : ByteArray) (hl : (d.take ns nr body).2 = l) :
    Calls Tryz.prog 10 #[.pointer (some ⟨b', 0, none⟩), .agg #[.int .i64 ns, .int .i64 nr, .string body]] w fun e w' => ∃ v', e = .returned v' ∧ PlT2 w0 w' b b' g gO cs c (d.take ns nr body).1 v v' l := by
  subst hl
  obtain ⟨⟨own, own', RT, RI, ol, hp, n1, n2, ho, n3, n4⟩, hb⟩ := h
  refine (rtake_at hp.r ns nr body).mono ?_
  rintro e w' ⟨⟨v', ol', rfl, h1, h2⟩, h3, h4⟩
  exact ⟨v', rfl, ⟨⟨own, own', RT, RI, ol, hp.stepR h3 (.refl _ _) h4, n1, n2, ho.upd h4 n2, n3, n4⟩, PlB.boxR hp hb h4⟩, ol', h1⟩
theorem PlT2.texts {v v' : Value} {l : List ByteArray} (h : PlT2 w0 w b b' g gO cs c d v v' l) (hl : l.length ≤ 100000) :
    Calls Tryz.prog 12 #[.pointer (some ⟨g, 0, none⟩), v] w fun e w' => e = .returned (.tuple #[]) ∧ PlB w0 w' b b' g gO cs c d ∧ (∃ ol, Own w' 9 1 v l.length (strs l) ol) ∧ (∃ ol, Own w' 9 1 v' l.length (strs l) ol) := by
  obtain ⟨⟨⟨own, own', RT, RI, ol, hp, n1, n2, ho, n3, n4⟩, hb⟩, ol', ho'⟩ := h
  refine (hp.bk.addTexts ⟨v, l, ol⟩ (by unfold Held; simp only [strs_flat]; exact ho) hl n3 n4 hp.lt (fun k hk => by simp only [List.mem_append, not_or]; exact ⟨n1 k hk, n2 k hk⟩)).mono ?_
  rintro e w' ⟨rfl, h1, h2⟩
  exact ⟨rfl, ⟨⟨own, own', _, RI, hp.a.updT h2 (by decide) (by decide), hp.r.updT h2 (by decide) (by decide) (by decide), hp.na, hp.nr, hp.ap, h1⟩, hb.updT h2 (by decide)⟩, ⟨ol, ho.updT h2 (by decide)⟩, ol', ho'.updT h2 (by decide)⟩
theorem PlB.out (h : PlB w0 w b b' g gO cs c d) :
    Calls Tryz.prog 18 #[.pointer (some ⟨b, 0, none⟩)] w fun e w' => ∃ v, e = .returned v ∧ PlI w0 w' b b' g gO cs c.out.1 d v c.out.2 := by
  obtain ⟨⟨own, own', RT, RI, hp⟩, hb⟩ := h
  refine (out_at hp.a).mono ?_
  rintro e w' ⟨⟨v, ol, rfl, h1, h2⟩, ⟨own1, h3, h5⟩, h4⟩
  refine ⟨v, rfl, ⟨own1, own', RT, RI, ol, hp.stepA h3 h5 h4, h1, ?_, ?_⟩, PlB.boxA hp hb h4⟩
  · intro k hk; exact Nat.le_trans hp.bk.ups.size (h2 k hk)
  · intro e he k hk hk2; have := h2 k hk2; have := hp.bk.ltItems e he k hk; omega
theorem PlI.rout {v : Value} {l : List Item} (h : PlI w0 w b b' g gO cs c d v l) (hl : d.out.2 = l) :
    Calls Tryz.prog 19 #[.pointer (some ⟨b', 0, none⟩)] w fun e w' => ∃ v', e = .returned v' ∧ PlI2 w0 w' b b' g gO cs c d.out.1 v v' l := by
  subst hl
  obtain ⟨⟨own, own', RT, RI, ol, hp, ho, n3, n4⟩, hb⟩ := h
  refine (rout_at hp.r).mono ?_
  rintro e w' ⟨⟨v', ol', rfl, h1, h2⟩, ⟨own1, h3, h5⟩, h4⟩
  exact ⟨v', rfl, ⟨⟨own, own1, RT, RI, ol, hp.stepR h3 h5 h4, ho.upd h4 (hp.r.ne_own ho (by decide) (by decide) (by decide)), n3, n4⟩, PlB.boxR hp hb h4⟩, ol', h1⟩
theorem PlI2.items {v v' : Value} {l : List Item} (h : PlI2 w0 w b b' g gO cs c d v v' l) (hl : l.length ≤ 100000) :
    Calls Tryz.prog 20 #[.pointer (some ⟨g, 0, none⟩), v] w fun e w' => e = .returned (.tuple #[]) ∧ PlB w0 w' b b' g gO cs c d ∧ (∃ ol, Own w' 53 3 v l.length (items l) ol) ∧ (∃ ol, Own w' 60 3 v' l.length (items l) ol) := by
  obtain ⟨⟨⟨own, own', RT, RI, ol, hp, ho, n3, n4⟩, hb⟩, ol', ho'⟩ := h
  refine (hp.bk.addItems ⟨v, l, ol⟩ ho hl n3 n4 hp.lt (fun k hk => by simp only [List.mem_append, not_or]; exact ⟨hp.a.ne_own ho (by decide) (by decide) k hk, hp.r.ne_own ho (by decide) (by decide) (by decide) k hk⟩)).mono ?_
  rintro e w' ⟨rfl, h1, h2⟩
  exact ⟨rfl, ⟨⟨own, own', RT, _, hp.a.updT h2 (by decide) (by decide), hp.r.updT h2 (by decide) (by decide) (by decide), hp.na, hp.nr, hp.ap, h1⟩, hb.updT h2 (by decide)⟩, ⟨ol, ho.updT h2 (by decide)⟩, ol', ho'.updT h2 (by decide)⟩
end
end Go.Proofs.YtdccmlpikjbcaaaGreat
