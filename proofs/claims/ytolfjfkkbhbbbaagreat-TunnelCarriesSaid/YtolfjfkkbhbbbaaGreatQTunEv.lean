/- Plain: two ends that live, as time goes by: only Hellos and acks are said. No program in sight. -/
import Derived.Test.YtolfjfkkbhbbbaaGreatQTunHA
namespace Go.Proofs.YtolfjfkkbhbbbaaGreat
open Go.RowKit
set_option linter.unusedSimpArgs false
set_option linter.unusedVariables false

/-- The parts of an end that turn as time goes by. -/
structure Ev where
  c : C
  q : Int
  st : Int
  told : Bool
def Ev.on (e : Ev) (T : Tn) : Tn := { T with way := e.c, quiet := e.q, state := e.st, told := e.told }
def helL : List Av := [numAv 0 6 2]
def helB : ByteArray := bodyC 0 helL
theorem hel_clear : Clear helL := ⟨by simp [helL], by simp [helL], fun a ha => by simp only [helL, List.mem_singleton] at ha; subst ha; exact ⟨rfl, ⟨by decide, by decide⟩, rfl, by simp [numAv, be_size]⟩⟩
theorem hel_kind : kindOf helL = 6 := kind_num 6 (by omega) _
theorem hel_check : checkOf helL = 0 := by
  show (match needsOf (kindOf helL) with
    | none => 40
    | some ns => if badOf [] = 0 then needOf helL ns else badOf []) = 0
  rw [hel_kind, show needsOf 6 = some [] by decide]
  rfl
def Ev.tick (e : Ev) : Ev :=
  if e.st = 4 then e else if e.c.tick.dead = true then { e with c := e.c.tick, st := 4 }
  else if 20 ≤ e.q + 1 then { e with c := (e.c.tick.send helB).1, q := 0 } else { e with c := e.c.tick, q := e.q + 1 }
def Ev.out (e : Ev) : Ev × List Item := if e.told = true then (e, []) else ({ e with c := e.c.out.1, told := decide (e.st = 4) }, e.c.out.2)
def Ev.take (e : Ev) (i : Item) : Ev := if e.st = 4 then e else { e with c := (e.c.take i.ns i.nr i.body).1, q := 0 }
def evFeed (e : Ev) (l : List Item) : Ev := l.foldl Ev.take e
/-- An item of a Hello, or of an ack. -/
def okItem (i : Item) : Bool := decide (0 ≤ i.ns) && decide (i.ns < 65536) && decide (0 ≤ i.nr) && decide (i.nr < 65536) && (decide (i.body = helB) || decide (i.body = ⟨#[]⟩))
theorem okItem_parts {i : Item} (h : okItem i = true) : (0 ≤ i.ns ∧ i.ns < 65536) ∧ (0 ≤ i.nr ∧ i.nr < 65536) ∧ (i.body = helB ∨ i.body = ⟨#[]⟩) := by
  simp only [okItem, Bool.and_eq_true, Bool.or_eq_true, decide_eq_true_eq] at h
  exact ⟨⟨h.1.1.1.1, h.1.1.1.2⟩, ⟨h.1.1.2, h.1.2⟩, h.2⟩
def Ev.live (e : Ev) : Prop := e.st = 3 ∨ e.st = 4
section
variable {e : Ev} {T : Tn}
theorem Ev.tick_live (h : e.live) : e.tick.live := by
  unfold Ev.tick
  split
  · exact h
  split
  · exact .inr rfl
  split <;> exact h
theorem Ev.out_live (h : e.live) : e.out.1.live := by
  unfold Ev.out
  split <;> exact h
theorem Ev.take_live (h : e.live) (i : Item) : (e.take i).live := by
  unfold Ev.take
  split <;> exact h
theorem Ev.on_tick (h : e.live) (hh : T.hello = 20) : (e.on T).tick = e.tick.on T := by
  unfold Ev.tick
  by_cases h4 : e.st = 4
  · rw [if_pos h4, Tn.tick, if_pos (show (e.on T).state = 4 from h4)]
  have h3 : e.st = 3 := h.resolve_right h4
  rw [if_neg h4, Tn.tick, if_neg (show ¬ (e.on T).state = 4 from h4)]
  by_cases hd : e.c.tick.dead = true
  · rw [if_pos hd, if_pos (show (e.on T).way.tick.dead = true from hd)]
    rfl
  rw [if_neg hd, if_neg (show ¬ (e.on T).way.tick.dead = true from hd), if_neg (by show ¬ (e.st = 1 ∨ e.st = 2); rw [h3]; decide), if_neg (by show ¬ e.st ≠ 3; simp [h3])]
  have hth : (e.on T).hello = 20 := hh
  by_cases hq : 20 ≤ e.q + 1
  · rw [if_pos hq, if_pos (show (e.on T).hello ≤ (e.on T).quiet + 1 by rw [hth]; exact hq), show [numAv 0 6 2] = helL from rfl, send_clear hel_clear]
    rfl
  · rw [if_neg hq, if_neg (show ¬ (e.on T).hello ≤ (e.on T).quiet + 1 by rw [hth]; exact hq)]
    rfl
theorem Ev.on_out : (e.on T).out = (e.out.1.on T, e.out.2.map (sayM T.id)) := by
  unfold Ev.out Tn.out
  by_cases h : e.told = true
  · rw [if_pos h, if_pos (show (e.on T).told = true from h)]
    rfl
  · rw [if_neg h, if_neg (show ¬ (e.on T).told = true from h)]
    rfl
theorem hear_on (e : Ev) (T : Tn) (h3 : e.st = 3) (ns nr : Int) (id : Int) (l : List Av) (b : ByteArray) (hl : (l = helL) ∨ (l = [] ∧ b = ⟨#[]⟩)) :
    ((e.on T).hear ⟨id, 0, ns, nr, l⟩ b).1 = ({ e with c := (e.c.take ns nr b).1, q := 0 } : Ev).on T := by
  unfold Tn.hear
  split
  · rfl
  · rename_i hne
    rcases hl with rfl | ⟨rfl, rfl⟩
    · unfold Tn.handle
      dsimp only
      rw [hel_kind, if_neg (by decide), if_neg (fun h => h hel_check), if_neg (by rintro ⟨h, -⟩; cases h), if_neg (by rintro ⟨h, -⟩; cases h), if_neg (by rintro ⟨h, -⟩; cases h), if_neg (by decide)]
      rfl
    · exfalso
      apply hne
      show (e.c.take ns nr ⟨#[]⟩).2 = []
      unfold C.take
      split
      · rfl
      · rw [if_pos (show ByteArray.size ⟨#[]⟩ = 0 from rfl)]
theorem Ev.on_take (h : e.live) (hc : 0 ≤ T.cid ∧ T.cid < 65536) {i : Item} (hi : okItem i = true) : ((e.on T).take (sayM T.cid i)).1 = (e.take i).on T := by
  obtain ⟨h1, h2, h5⟩ := okItem_parts hi
  obtain ⟨ns, nr, b⟩ := i
  unfold Ev.take
  by_cases h4 : e.st = 4
  · rw [if_pos h4, dead_take (show (e.on T).state = 4 from h4)]
  have h3 : e.st = 3 := h.resolve_right h4
  rw [if_neg h4]
  dsimp only at h1 h2 h5 ⊢
  rcases h5 with rfl | rfl
  · rw [show helB = bodyC 0 helL from rfl, take_clear ⟨hc, by omega, h1, h2⟩ hel_clear (e.on T) (show (e.on T).state ≠ 4 from h4), takeM_mine (e.on T) _ _ rfl (.inl (by rw [hel_kind]; decide))]
    exact hear_on e T h3 ns nr T.cid helL _ (.inl rfl)
  · rw [take_ack ⟨hc, by omega, h1, h2⟩ (e.on T) (show (e.on T).state ≠ 4 from h4), takeM_mine (e.on T) _ _ rfl (.inl (by show kindOf [] ≠ 1; decide))]
    exact hear_on e T h3 ns nr T.cid [] _ (.inr ⟨rfl, rfl⟩)
theorem Ev.feed_live : ∀ (l : List Item) {e : Ev}, e.live → (evFeed e l).live
  | [], _, h => h
  | i :: l, e, h => Ev.feed_live l (Ev.take_live h i)
theorem Ev.on_feed (hc : 0 ≤ T.cid ∧ T.cid < 65536) : ∀ (l : List Item) {e : Ev}, e.live → l.all okItem = true → feed (e.on T) (l.map (sayM T.cid)) = (evFeed e l).on T
  | [], _, _, _ => rfl
  | i :: l, e, h, hi => by
    simp only [List.all_cons, Bool.and_eq_true] at hi
    show feed ((e.on T).take (sayM T.cid i)).1 (l.map (sayM T.cid)) = _
    rw [Ev.on_take h hc hi.1]
    exact Ev.on_feed hc l (Ev.take_live h i) hi.2
end
/-! ### a round in which both hear all -/
structure Ev2 where
  a : Ev
  b : Ev
def ev0 : Ev2 := ⟨⟨chn 2 1 [] [] 3 0 false, 0, 3, false⟩, ⟨chn 1 2 [] [] 2 0 false, 0, 3, false⟩⟩
def Ev2.meet (p : Ev2) : Ev2 := ⟨evFeed p.a.out.1 (evFeed p.b p.a.out.2).out.2, (evFeed p.b p.a.out.2).out.1⟩
def Ev2.meetOk (p : Ev2) : Bool := p.a.out.2.all okItem && (evFeed p.b p.a.out.2).out.2.all okItem
theorem on_meet {p : Ev2} {A B : Tn} (h1 : p.a.live) (h2 : p.b.live) (hab : A.id = B.cid) (hba : B.id = A.cid) (hA : 0 ≤ A.cid ∧ A.cid < 65536) (hB : 0 ≤ B.cid ∧ B.cid < 65536) (hok : p.meetOk = true) :
    meet1 (p.a.on A, p.b.on B) = (p.meet.a.on A, p.meet.b.on B) ∧ p.meet.a.live ∧ p.meet.b.live := by
  simp only [Ev2.meetOk, Bool.and_eq_true] at hok
  have l1 := Ev.feed_live p.a.out.2 h2
  refine ⟨?_, Ev.feed_live _ (Ev.out_live h1), Ev.out_live l1⟩
  unfold meet1 Ev2.meet
  dsimp only
  rw [Ev.on_out, hab]
  dsimp only
  rw [Ev.on_feed hB _ h2 hok.1, Ev.on_out, hba]
  dsimp only
  rw [Ev.on_feed hA _ (Ev.out_live h1) hok.2]
/-- A round of TunnelEnds: both tick, and meet. -/
def Ev2.round (p : Ev2) : Ev2 := Ev2.meet ⟨p.a.tick, p.b.tick⟩
def Ev2.roundOk (p : Ev2) : Bool := Ev2.meetOk ⟨p.a.tick, p.b.tick⟩
def rounds : Nat → Ev2
  | 0 => ev0
  | n + 1 => (rounds n).round
end Go.Proofs.YtolfjfkkbhbbbaaGreat
