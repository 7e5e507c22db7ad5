/- Plain: CtlFair's rounds. They are the same whatever the first number is (C.sh), and from the number 0 on they are reckoned for every window, count and losses. -/
import Derived.Test.YtclodmcdimaccaaCtlH
namespace Go.Proofs.Ytclodmcdimaccaa
set_option linter.unusedSimpArgs false
set_option linter.unusedVariables false

/-! ### numbers set off -/
def C.sh (s : Int) (c : C) : C := { c with sent := (c.sent + s) % 65536, came := (c.came + s) % 65536 }
def Item.sh (s : Int) (x : Item) : Item := ⟨(x.ns + s) % 65536, (x.nr + s) % 65536, x.body⟩
variable {s : Int}
theorem bef_sh (a b : Int) : bef ((a + s) % 65536) ((b + s) % 65536) = bef a b := by
  unfold bef
  have : ((b + s) % 65536 - (a + s) % 65536) % 65536 = (b - a) % 65536 := by omega
  rw [this]
theorem C.sh_first (c : C) : (c.sh s).first = (c.first + s) % 65536 := by simp only [C.sh, C.first]; omega
theorem C.sh_grow (c : C) : (c.sh s).grow = c.grow.sh s := by
  unfold C.grow
  by_cases h1 : c.room < c.mark
  · rw [if_pos h1, if_pos (show (c.sh s).room < (c.sh s).mark from h1)]; rfl
  · rw [if_neg h1, if_neg (show ¬ (c.sh s).room < (c.sh s).mark from h1)]
    by_cases h2 : c.room ≤ c.count + 1
    · rw [if_pos h2, if_pos (show (c.sh s).room ≤ (c.sh s).count + 1 from h2)]; rfl
    · rw [if_neg h2, if_neg (show ¬ (c.sh s).room ≤ (c.sh s).count + 1 from h2)]; rfl
theorem C.sh_pop (c : C) : (c.sh s).pop = c.pop.sh s := by
  unfold C.pop
  rw [← C.sh_grow]
  rfl
theorem C.sh_ackLoop (nr : Int) : ∀ (n : Nat) (c : C), C.ackLoop ((nr + s) % 65536) n (c.sh s) = (C.ackLoop nr n c).sh s
  | 0, _ => rfl
  | n + 1, c => by
    unfold C.ackLoop
    rw [C.sh_first, bef_sh, C.sh_pop, C.sh_ackLoop nr n]
    have : (c.sh s).flies = c.flies := rfl
    rw [this]
    split <;> rfl
theorem C.sh_acked (c : C) (nr : Int) : (c.sh s).acked ((nr + s) % 65536) = (c.acked nr).sh s := by
  unfold C.acked
  have h1 : (c.sh s).sent = (c.sent + s) % 65536 := rfl
  have h2 : (c.sh s).flies = c.flies := rfl
  rw [C.sh_first, bef_sh, h1, bef_sh, h2, C.sh_ackLoop]
  split <;> rfl
theorem C.acked_came' (c : C) (nr : Int) : (c.acked nr).came = c.came := by
  have g : ∀ c : C, c.grow.came = c.came := fun c => by unfold C.grow; (repeat' split) <;> rfl
  have l : ∀ (n : Nat) (c : C), (C.ackLoop nr n c).came = c.came := by
    intro n
    induction n with
    | zero => intro c; rfl
    | succ n ih =>
      intro c
      unfold C.ackLoop
      split
      · rw [ih]; unfold C.pop; rw [g]
      · rfl
  unfold C.acked
  split
  · rfl
  · exact l _ _
theorem C.sh_take {c : C} (hk : c.ok) {x : Item} (h1 : 0 ≤ x.ns ∧ x.ns ≤ 65535) (h2 : 0 ≤ x.nr ∧ x.nr ≤ 65535) :
    (c.sh s).take (x.sh s).ns (x.sh s).nr (x.sh s).body = ((c.take x.ns x.nr x.body).1.sh s, (c.take x.ns x.nr x.body).2) := by
  have k1 := hk.c1
  have k2 := hk.c2
  by_cases hd : c.dead = true
  · have e1 : c.take x.ns x.nr x.body = (c, []) := by unfold C.take; rw [if_pos (.inl hd)]
    have e2 : (c.sh s).take (x.sh s).ns (x.sh s).nr (x.sh s).body = (c.sh s, []) := by unfold C.take; rw [if_pos (.inl hd)]
    rw [e1, e2]
  have n1 : ¬ (c.dead = true ∨ ¬ (0 ≤ x.ns ∧ x.ns ≤ 65535) ∨ ¬ (0 ≤ x.nr ∧ x.nr ≤ 65535)) := by
    rintro (h | h | h)
    · exact hd h
    · exact h h1
    · exact h h2
  have n2 : ¬ ((c.sh s).dead = true ∨ ¬ (0 ≤ (x.sh s).ns ∧ (x.sh s).ns ≤ 65535) ∨ ¬ (0 ≤ (x.sh s).nr ∧ (x.sh s).nr ≤ 65535)) := by
    rintro (h | h | h)
    · exact hd h
    · exact h ⟨by show 0 ≤ (x.ns + s) % 65536; omega, by show (x.ns + s) % 65536 ≤ 65535; omega⟩
    · exact h ⟨by show 0 ≤ (x.nr + s) % 65536; omega, by show (x.nr + s) % 65536 ≤ 65535; omega⟩
  have ea : (c.sh s).acked (x.sh s).nr = (c.acked x.nr).sh s := C.sh_acked c x.nr
  by_cases hb : x.body.size = 0
  · have e1 : c.take x.ns x.nr x.body = (c.acked x.nr, []) := by unfold C.take; rw [if_neg n1, if_pos hb]
    have e2 : (c.sh s).take (x.sh s).ns (x.sh s).nr (x.sh s).body = ((c.sh s).acked (x.sh s).nr, []) := by unfold C.take; rw [if_neg n2, if_pos (show (x.sh s).body.size = 0 from hb)]
    rw [e1, e2, ea]
  have hc := C.acked_came' c x.nr
  by_cases hn : x.ns = c.came
  · have e1 : c.take x.ns x.nr x.body = ({ c.acked x.nr with owed := true, came := (c.came + 1) % 65536 }, [x.body]) := by
      unfold C.take; rw [if_neg n1, if_neg hb, if_neg (by rw [hc]; simpa using hn), hc]
    have e2 : (c.sh s).take (x.sh s).ns (x.sh s).nr (x.sh s).body = ({ (c.acked x.nr).sh s with owed := true, came := ((c.came + s) % 65536 + 1) % 65536 }, [x.body]) := by
      have hc2 : ((c.acked x.nr).sh s).came = (c.came + s) % 65536 := by rw [← hc]; rfl
      unfold C.take; rw [if_neg n2, if_neg (show ¬ (x.sh s).body.size = 0 from hb), ea, hc2, if_neg (by simp only [Item.sh, hn, ne_eq, not_true_eq_false, not_false_eq_true])]
      rfl
    rw [e1, e2]
    have e3 : ((c.came + s) % 65536 + 1) % 65536 = ((c.came + 1) % 65536 + s) % 65536 := by omega
    rw [e3]
    rfl
  · have e1 : c.take x.ns x.nr x.body = ({ c.acked x.nr with owed := true }, []) := by
      unfold C.take; rw [if_neg n1, if_neg hb, if_pos (by rw [hc]; exact hn)]
    have e2 : (c.sh s).take (x.sh s).ns (x.sh s).nr (x.sh s).body = ({ (c.acked x.nr).sh s with owed := true }, []) := by
      have hc2 : ((c.acked x.nr).sh s).came = (c.came + s) % 65536 := by rw [← hc]; rfl
      unfold C.take; rw [if_neg n2, if_neg (show ¬ (x.sh s).body.size = 0 from hb), ea, hc2, if_pos (by simp only [Item.sh, ne_eq]; omega)]
    rw [e1, e2]
    rfl
theorem C.sh_fly (c : C) : (c.sh s).fly = c.fly.sh s := by
  simp only [C.fly, C.sh]
  congr 1
  omega
theorem C.sh_outLoop : ∀ (n : Nat) (c : C) (l : List Item), C.outLoop n (c.sh s, l.map (Item.sh s)) = ((C.outLoop n (c, l)).1.sh s, (C.outLoop n (c, l)).2.map (Item.sh s))
  | 0, _, _ => rfl
  | n + 1, c, l => by
    unfold C.outLoop
    have e1 : (c.sh s).waits = c.waits := rfl
    have e2 : (c.sh s).flies = c.flies := rfl
    have e3 : (c.sh s).room = c.room := rfl
    have e4 : (c.sh s).window = c.window := rfl
    have e5 : l.map (Item.sh s) ++ [(c.sh s).flyItem] = (l ++ [c.flyItem]).map (Item.sh s) := by rw [List.map_append]; rfl
    rw [e1, e2, e3, e4, C.sh_fly, e5, C.sh_outLoop n]
    split <;> rfl
theorem C.sh_out (c : C) : (c.sh s).out = (c.out.1.sh s, c.out.2.map (Item.sh s)) := by
  unfold C.out
  have e1 : (c.sh s).dead = c.dead := rfl
  have e2 : (c.sh s).waits = c.waits := rfl
  have e3 : (c.sh s).outAgain = c.outAgain.map (Item.sh s) := by
    unfold C.outAgain
    have f1 : (c.sh s).again = c.again := rfl
    have f2 : (c.sh s).flies = c.flies := rfl
    rw [f1, f2, C.sh_first]
    split <;> rfl
  rw [e1, e2, e3, C.sh_outLoop]
  split
  · rfl
  · generalize C.outLoop c.waits.length (c, c.outAgain) = p
    obtain ⟨q, l⟩ := p
    unfold C.outEnd
    refine Prod.ext rfl ?_
    have f1 : (q.sh s).owed = q.owed := rfl
    simp only [f1, List.map_eq_nil_iff]
    split
    · rw [List.map_append]; rfl
    · rfl
theorem C.sh_tick (c : C) : (c.sh s).tick = c.tick.sh s := by
  unfold C.tick
  by_cases h1 : c.dead = true ∨ c.flies.length = 0
  · rw [if_pos h1, if_pos (show (c.sh s).dead = true ∨ (c.sh s).flies.length = 0 from h1)]
  · rw [if_neg h1, if_neg (show ¬ ((c.sh s).dead = true ∨ (c.sh s).flies.length = 0) from h1)]
    by_cases h2 : c.ticks + 1 < c.wait * 2 ^ (min c.tries 3).toNat
    · rw [if_pos h2, if_pos (show (c.sh s).ticks + 1 < (c.sh s).wait * 2 ^ (min (c.sh s).tries 3).toNat from h2)]; rfl
    · rw [if_neg h2, if_neg (show ¬ (c.sh s).ticks + 1 < (c.sh s).wait * 2 ^ (min (c.sh s).tries 3).toNat from h2)]
      by_cases h3 : c.retry ≤ c.tries
      · rw [if_pos h3, if_pos (show (c.sh s).retry ≤ (c.sh s).tries from h3)]; rfl
      · rw [if_neg h3, if_neg (show ¬ (c.sh s).retry ≤ (c.sh s).tries from h3)]; rfl
theorem C.sh_new (w q r t f : Int) (hf : 0 ≤ f ∧ f ≤ 65535) : C.new w q r t f = (C.new w q r t 0).sh f := by
  simp only [C.new, C.sh]
  congr 1 <;> omega
/-- What is said has numbers of two bytes. -/
def Item.in16 (x : Item) : Prop := (0 ≤ x.ns ∧ x.ns ≤ 65535) ∧ (0 ≤ x.nr ∧ x.nr ≤ 65535)
theorem C.outLoop_in : ∀ (n : Nat) (c : C) (l : List Item), c.ok → (∀ x ∈ l, x.in16) → ∀ x ∈ (C.outLoop n (c, l)).2, x.in16
  | 0, _, _, _, h => h
  | n + 1, c, l, hk, h => by
    unfold C.outLoop
    split
    · rename_i hc
      refine C.outLoop_in n _ _ (C.fly_ok hk hc) ?_
      intro x hx
      rcases List.mem_append.1 hx with hx | hx
      · exact h x hx
      · simp at hx; subst hx
        have := hk.s1; have := hk.s2; have := hk.c1; have := hk.c2
        exact ⟨⟨by simp [C.flyItem]; omega, by simp [C.flyItem]; omega⟩, ⟨by simp [C.flyItem]; omega, by simp [C.flyItem]; omega⟩⟩
    · exact h
theorem C.out_in {c : C} (hk : c.ok) : ∀ x ∈ c.out.2, x.in16 := by
  have k1 := hk.s1; have k2 := hk.s2; have k3 := hk.c1; have k4 := hk.c2
  unfold C.out
  split
  · intro x hx; simp at hx
  have h0 : ∀ x ∈ c.outAgain, x.in16 := by
    intro x hx
    unfold C.outAgain at hx
    split at hx
    · simp at hx; subst hx
      refine ⟨?_, ⟨by simp; omega, by simp; omega⟩⟩
      simp only [C.first]; omega
    · simp at hx
  have h1 := C.outLoop_in c.waits.length c c.outAgain hk h0
  have h2 := C.outLoop_ok c.waits.length (c, c.outAgain) hk
  generalize C.outLoop c.waits.length (c, c.outAgain) = p at h1 h2
  intro x hx
  unfold C.outEnd at hx
  simp only at hx
  split at hx
  · rcases List.mem_append.1 hx with hx | hx
    · exact h1 x hx
    · simp at hx; subst hx
      have := h2.s1; have := h2.s2; have := h2.c1; have := h2.c2
      exact ⟨⟨by simp; omega, by simp; omega⟩, ⟨by simp; omega, by simp; omega⟩⟩
  · exact h1 x hx

/-! ### the rounds -/
structure Fair where
  a : C
  b : C
  got : List ByteArray
  lost : Nat
def frIn (p : Fair) (x : Item) : Fair :=
  if 0 < p.lost then { p with lost := p.lost - 1 } else { p with b := (p.b.take x.ns x.nr x.body).1, got := p.got ++ (p.b.take x.ns x.nr x.body).2 }
def frBack (p : Fair) (x : Item) : Fair := { p with a := (p.a.take x.ns x.nr x.body).1 }
def frOutA (p : Fair) : Fair := { p with a := p.a.out.1 }
def frOutB (p : Fair) : Fair := { p with b := p.b.out.1 }
def frX (p : Fair) : Fair := p.a.out.2.foldl frIn (frOutA p)
def frY (p : Fair) : Fair := p.b.out.2.foldl frBack (frOutB p)
def frTick (p : Fair) : Fair := { p with a := p.a.tick, b := p.b.tick }
def frStep (p : Fair) : Fair := frTick (frY (frX p))
def frRun : Nat → Fair → Fair
  | 0, p => p
  | n + 1, p => frRun n (frStep p)
theorem frRun_succ (n : Nat) (p : Fair) : frRun (n + 1) p = frStep (frRun n p) := by
  induction n generalizing p with
  | zero => rfl
  | succ n ih => rw [frRun, ih, ← frRun]
structure Fair.ok (p : Fair) : Prop where
  a : p.a.ok
  b : p.b.ok
theorem Fair.ok.in {p : Fair} (h : p.ok) (x : Item) : (frIn p x).ok := by
  unfold frIn
  split
  · exact ⟨h.a, h.b⟩
  · exact ⟨h.a, C.take_ok h.b _ _ _⟩
theorem Fair.ok.ins {p : Fair} (h : p.ok) (l : List Item) : (l.foldl frIn p).ok := by
  induction l generalizing p with
  | nil => exact h
  | cons x l ih => exact ih (h.in x)
theorem Fair.ok.back {p : Fair} (h : p.ok) (x : Item) : (frBack p x).ok := ⟨C.take_ok h.a _ _ _, h.b⟩
theorem Fair.ok.backs {p : Fair} (h : p.ok) (l : List Item) : (l.foldl frBack p).ok := by
  induction l generalizing p with
  | nil => exact h
  | cons x l ih => exact ih (h.back x)
theorem Fair.ok.outA {p : Fair} (h : p.ok) : (frOutA p).ok := ⟨C.out_ok h.a, h.b⟩
theorem Fair.ok.outB {p : Fair} (h : p.ok) : (frOutB p).ok := ⟨h.a, C.out_ok h.b⟩
theorem Fair.ok.x {p : Fair} (h : p.ok) : (frX p).ok := h.outA.ins _
theorem Fair.ok.y {p : Fair} (h : p.ok) : (frY p).ok := h.outB.backs _
theorem Fair.ok.step {p : Fair} (h : p.ok) : (frStep p).ok := ⟨C.tick_ok h.x.y.a, C.tick_ok h.x.y.b⟩
theorem Fair.ok.run {p : Fair} (h : p.ok) (n : Nat) : (frRun n p).ok := by
  induction n generalizing p with
  | zero => exact h
  | succ n ih => exact ih h.step

def Fair.sh (s : Int) (p : Fair) : Fair := { p with a := p.a.sh s, b := p.b.sh s }
theorem Fair.sh_in {p : Fair} (h : p.ok) {x : Item} (hx : x.in16) : frIn (p.sh s) (x.sh s) = (frIn p x).sh s := by
  unfold frIn
  have e : (p.sh s).lost = p.lost := rfl
  have e2 : (p.sh s).b = p.b.sh s := rfl
  rw [e, e2, C.sh_take h.b hx.1 hx.2]
  split <;> rfl
theorem Fair.sh_ins {p : Fair} (h : p.ok) (l : List Item) (hl : ∀ x ∈ l, x.in16) : (l.map (Item.sh s)).foldl frIn (p.sh s) = (l.foldl frIn p).sh s := by
  induction l generalizing p with
  | nil => rfl
  | cons x l ih =>
    rw [List.map_cons, List.foldl_cons, List.foldl_cons, Fair.sh_in h (hl x (by simp))]
    exact ih (h.in x) (fun y hy => hl y (by simp [hy]))
theorem Fair.sh_back {p : Fair} (h : p.ok) {x : Item} (hx : x.in16) : frBack (p.sh s) (x.sh s) = (frBack p x).sh s := by
  unfold frBack
  have e2 : (p.sh s).a = p.a.sh s := rfl
  rw [e2, C.sh_take h.a hx.1 hx.2]
  rfl
theorem Fair.sh_backs {p : Fair} (h : p.ok) (l : List Item) (hl : ∀ x ∈ l, x.in16) : (l.map (Item.sh s)).foldl frBack (p.sh s) = (l.foldl frBack p).sh s := by
  induction l generalizing p with
  | nil => rfl
  | cons x l ih =>
    rw [List.map_cons, List.foldl_cons, List.foldl_cons, Fair.sh_back h (hl x (by simp))]
    exact ih (h.back x) (fun y hy => hl y (by simp [hy]))
theorem Fair.sh_x {p : Fair} (h : p.ok) : frX (p.sh s) = (frX p).sh s := by
  unfold frX
  have e : frOutA (p.sh s) = (frOutA p).sh s := by
    show { p.sh s with a := (p.a.sh s).out.1 } = _
    rw [C.sh_out]; rfl
  have e2 : (p.sh s).a = p.a.sh s := rfl
  rw [e, e2, C.sh_out]
  exact Fair.sh_ins h.outA _ (C.out_in h.a)
theorem Fair.sh_y {p : Fair} (h : p.ok) : frY (p.sh s) = (frY p).sh s := by
  unfold frY
  have e : frOutB (p.sh s) = (frOutB p).sh s := by
    show { p.sh s with b := (p.b.sh s).out.1 } = _
    rw [C.sh_out]; rfl
  have e2 : (p.sh s).b = p.b.sh s := rfl
  rw [e, e2, C.sh_out]
  exact Fair.sh_backs h.outB _ (C.out_in h.b)
theorem Fair.sh_step {p : Fair} (h : p.ok) : frStep (p.sh s) = (frStep p).sh s := by
  unfold frStep
  rw [Fair.sh_x h, Fair.sh_y h.x]
  unfold frTick
  have e1 : ((frY (frX p)).sh s).a = (frY (frX p)).a.sh s := rfl
  have e2 : ((frY (frX p)).sh s).b = (frY (frX p)).b.sh s := rfl
  rw [e1, e2, C.sh_tick, C.sh_tick]
  rfl
theorem Fair.sh_run {p : Fair} (h : p.ok) (n : Nat) : frRun n (p.sh s) = (frRun n p).sh s := by
  induction n generalizing p with
  | zero => rfl
  | succ n ih => rw [frRun, Fair.sh_step h, ih h.step, ← frRun]

/-! ### at rest -/
def C.idle (c : C) : Bool := c.waits.isEmpty && c.flies.isEmpty && !c.owed && !c.again && !c.dead
theorem C.idle_parts {c : C} (h : c.idle = true) : c.waits = [] ∧ c.flies = [] ∧ c.owed = false ∧ c.again = false ∧ c.dead = false := by
  simp only [C.idle, Bool.and_eq_true, List.isEmpty_iff, Bool.not_eq_true'] at h
  exact ⟨h.1.1.1.1, h.1.1.1.2, h.1.1.2, h.1.2, h.2⟩
theorem C.idle_out {c : C} (h : c.idle = true) : c.out = (c, []) := by
  obtain ⟨h1, h2, h3, h4, h5⟩ := C.idle_parts h
  unfold C.out
  rw [if_neg (by simp [h5]), h1]
  unfold C.outAgain
  rw [if_neg (by simp [h4])]
  unfold C.outEnd
  simp only [C.outLoop, List.length_nil]
  rw [if_neg (by simp [h3])]
  cases c
  simp_all
theorem C.idle_tick {c : C} (h : c.idle = true) : c.tick = c := by
  obtain ⟨h1, h2, h3, h4, h5⟩ := C.idle_parts h
  unfold C.tick
  rw [if_pos (.inr (by simp [h2]))]
theorem Fair.idle_step {p : Fair} (ha : p.a.idle = true) (hb : p.b.idle = true) : frStep p = p := by
  have e1 : frX p = p := by
    unfold frX frOutA
    rw [C.idle_out ha]
    rfl
  have e2 : frY p = p := by
    unfold frY frOutB
    rw [C.idle_out hb]
    rfl
  unfold frStep
  rw [e1, e2]
  unfold frTick
  rw [C.idle_tick ha, C.idle_tick hb]
theorem Fair.idle_run {p : Fair} (ha : p.a.idle = true) (hb : p.b.idle = true) (n : Nat) : frRun n p = p := by
  induction n with
  | zero => rfl
  | succ n ih => rw [frRun, Fair.idle_step ha hb, ih]
def frMsg (i : Nat) : ByteArray := ⟨#[109, UInt8.ofNat i]⟩
def frSent : Nat → List ByteArray
  | 0 => []
  | n + 1 => frSent n ++ [frMsg n]
def frC : Nat → C → C
  | 0, c => c
  | n + 1, c => ((frC n c).send (frMsg n)).1
def frStart (w f : Int) (n lost : Nat) : Fair := ⟨frC n (C.new w 40 5 2 f), C.new w 40 5 2 f, [], lost⟩
def frPlain (l : List ByteArray) : List (List UInt8) := l.map (fun m => m.data.toList)
/-- At rest within so many rounds, with all that was sent. -/
def frEnds (want : List (List UInt8)) : Nat → Fair → Bool
  | 0, _ => false
  | k + 1, p => if p.a.idle && p.b.idle then decide (frPlain p.got = want) else frEnds want k (frStep p)
theorem frEnds_spec (want : List (List UInt8)) : ∀ (k : Nat) (p : Fair), frEnds want k p = true → ∀ n, k ≤ n → (frRun n p).a.idle = true ∧ (frRun n p).b.idle = true ∧ frPlain (frRun n p).got = want
  | 0, _, h, _, _ => by simp [frEnds] at h
  | k + 1, p, h, n, hn => by
    unfold frEnds at h
    split at h
    · rename_i hi
      simp only [Bool.and_eq_true] at hi
      rw [Fair.idle_run hi.1 hi.2]
      exact ⟨hi.1, hi.2, by simpa using h⟩
    · obtain ⟨m, rfl⟩ : ∃ m, n = m + 1 := ⟨n - 1, by omega⟩
      rw [frRun]
      exact frEnds_spec want k _ h m (by omega)
theorem C.take_len (c : C) (ns nr : Int) (body : ByteArray) : (c.take ns nr body).2.length ≤ 1 := by
  unfold C.take
  (repeat' split) <;> simp
theorem frIn_len (p : Fair) (x : Item) : (frIn p x).got.length ≤ p.got.length + 1 := by
  unfold frIn
  split
  · simp
  · have := C.take_len p.b x.ns x.nr x.body
    simp only [List.length_append]; omega
theorem C.outLoop_len' : ∀ (n : Nat) (c : C) (l : List Item), (C.outLoop n (c, l)).2.length ≤ l.length + c.waits.length
  | 0, _, _ => by simp [C.outLoop]
  | n + 1, c, l => by
    unfold C.outLoop
    split
    · have h := C.outLoop_len' n c.fly (l ++ [c.flyItem])
      have : 0 < c.waits.length := by rename_i h1; exact h1.1
      have hw : c.fly.waits.length = c.waits.length - 1 := by simp [C.fly]
      rw [hw, List.length_append, List.length_singleton] at h
      omega
    · simp
theorem C.out_len' {c : C} (h : c.ok) : c.out.2.length ≤ 42 := by
  have h1 := C.outAgain_len h
  have h2 := C.outLoop_len' c.waits.length c c.outAgain
  unfold C.out
  split
  · simp
  · unfold C.outEnd
    show (if _ then _ else _ : List Item).length ≤ 42
    split
    · rw [List.length_append]; simp only [List.length_singleton]; omega
    · omega
theorem ins_len (l : List Item) (p : Fair) : (l.foldl frIn p).got.length ≤ p.got.length + l.length := by
  induction l generalizing p with
  | nil => simp
  | cons x l ih =>
    have h1 := ih (frIn p x)
    have h2 := frIn_len p x
    rw [List.foldl_cons, List.length_cons]; omega
theorem backs_got (l : List Item) (p : Fair) : (l.foldl frBack p).got = p.got := by
  induction l generalizing p with
  | nil => rfl
  | cons x l ih => rw [List.foldl_cons, ih]; rfl
theorem frStep_len {p : Fair} (h : p.ok) : (frStep p).got.length ≤ p.got.length + 42 := by
  have h1 := ins_len p.a.out.2 (frOutA p)
  have h2 := C.out_len' h.a
  have h3 := backs_got (frX p).b.out.2 (frOutB (frX p))
  show (frY (frX p)).got.length ≤ _
  unfold frY
  rw [h3]
  show (frX p).got.length ≤ _
  have h4 : (frOutA p).got = p.got := rfl
  rw [h4] at h1
  unfold frX
  omega
theorem frRun_len {p : Fair} (h : p.ok) (hg : p.got = []) : ∀ n, (frRun n p).got.length ≤ 42 * n
  | 0 => by simp [frRun, hg]
  | n + 1 => by
    have h1 := frRun_len h hg n
    have h2 := frStep_len (h.run n)
    rw [frRun_succ]; omega
/-- All that waits and flies is small. -/
def C.small (c : C) : Prop := (∀ m ∈ c.waits, m.size ≤ 1500) ∧ ∀ m ∈ c.flies, m.size ≤ 1500
theorem C.small_send {c : C} (h : c.small) (m : ByteArray) : (c.send m).1.small := by
  unfold C.send
  (repeat' split) <;> first | exact h | skip
  rename_i h1 h2 h3
  refine ⟨fun x hx => ?_, h.2⟩
  rcases List.mem_append.1 hx with hx | hx
  · exact h.1 x hx
  · simp at hx; subst hx; omega
theorem C.small_grow {c : C} (h : c.small) : c.grow.small := by unfold C.grow; (repeat' split) <;> exact h
theorem C.small_ackLoop (nr : Int) : ∀ (n : Nat) {c : C}, c.small → (C.ackLoop nr n c).small
  | 0, _, h => h
  | n + 1, c, h => by
    unfold C.ackLoop
    split
    · refine C.small_ackLoop nr n ?_
      unfold C.pop
      exact C.small_grow ⟨h.1, fun m hm => h.2 m (List.mem_of_mem_tail hm)⟩
    · exact h
theorem C.small_acked {c : C} (h : c.small) (nr : Int) : (c.acked nr).small := by
  unfold C.acked
  split
  · exact h
  · exact C.small_ackLoop nr _ h
theorem C.small_take {c : C} (h : c.small) (ns nr : Int) (body : ByteArray) : (c.take ns nr body).1.small := by
  have := C.small_acked h nr
  unfold C.take
  (repeat' split) <;> first | exact h | exact this
theorem C.small_tick {c : C} (h : c.small) : c.tick.small := by unfold C.tick; (repeat' split) <;> exact h
theorem small_hd {l : List ByteArray} (h : ∀ m ∈ l, m.size ≤ 1500) : (hd l).size ≤ 1500 := by
  cases l with
  | nil => simp [hd]
  | cons m l => exact h m (by simp)
theorem C.small_outLoop : ∀ (n : Nat) {c : C} {l : List Item}, c.small → (∀ x ∈ l, x.body.size ≤ 1500) → (C.outLoop n (c, l)).1.small ∧ ∀ x ∈ (C.outLoop n (c, l)).2, x.body.size ≤ 1500
  | 0, _, _, h, hl => ⟨h, hl⟩
  | n + 1, c, l, h, hl => by
    unfold C.outLoop
    split
    · refine C.small_outLoop n ⟨fun m hm => h.1 m (List.mem_of_mem_tail hm), fun m hm => ?_⟩ fun x hx => ?_
      · rcases List.mem_append.1 hm with hm | hm
        · exact h.2 m hm
        · simp at hm; subst hm; exact small_hd h.1
      · rcases List.mem_append.1 hx with hx | hx
        · exact hl x hx
        · simp at hx; subst hx; exact small_hd h.1
    · exact ⟨h, hl⟩
theorem C.small_out {c : C} (h : c.small) : c.out.1.small ∧ ∀ x ∈ c.out.2, x.body.size ≤ 1500 := by
  unfold C.out
  split
  · exact ⟨h, by simp⟩
  have h0 : ∀ x ∈ c.outAgain, x.body.size ≤ 1500 := by
    intro x hx
    unfold C.outAgain at hx
    split at hx
    · simp at hx; subst hx; exact small_hd h.2
    · simp at hx
  obtain ⟨h1, h2⟩ := C.small_outLoop c.waits.length h h0
  refine ⟨h1, fun x hx => ?_⟩
  unfold C.outEnd at hx
  simp only at hx
  split at hx
  · rcases List.mem_append.1 hx with hx | hx
    · exact h2 x hx
    · simp at hx; subst hx; simp
  · exact h2 x hx
structure Fair.fit (p : Fair) : Prop where
  ok : p.ok
  a : p.a.small
  b : p.b.small
  l : p.lost ≤ 3
theorem Fair.fit.in {p : Fair} (h : p.fit) (x : Item) : (frIn p x).fit := by
  refine ⟨h.ok.in x, ?_, ?_, ?_⟩ <;> unfold frIn
  · split <;> exact h.a
  · split
    · exact h.b
    · exact C.small_take h.b _ _ _
  · have := h.l
    split
    · show p.lost - 1 ≤ 3; omega
    · exact this
theorem Fair.fit.ins {p : Fair} (h : p.fit) (l : List Item) : (l.foldl frIn p).fit := by
  induction l generalizing p with
  | nil => exact h
  | cons x l ih => exact ih (h.in x)
theorem Fair.fit.back {p : Fair} (h : p.fit) (x : Item) : (frBack p x).fit := ⟨h.ok.back x, C.small_take h.a _ _ _, h.b, h.l⟩
theorem Fair.fit.backs {p : Fair} (h : p.fit) (l : List Item) : (l.foldl frBack p).fit := by
  induction l generalizing p with
  | nil => exact h
  | cons x l ih => exact ih (h.back x)
theorem Fair.fit.outA {p : Fair} (h : p.fit) : (frOutA p).fit := ⟨h.ok.outA, (C.small_out h.a).1, h.b, h.l⟩
theorem Fair.fit.outB {p : Fair} (h : p.fit) : (frOutB p).fit := ⟨h.ok.outB, h.a, (C.small_out h.b).1, h.l⟩
theorem Fair.fit.x {p : Fair} (h : p.fit) : (frX p).fit := h.outA.ins _
theorem Fair.fit.y {p : Fair} (h : p.fit) : (frY p).fit := h.outB.backs _
theorem Fair.fit.step {p : Fair} (h : p.fit) : (frStep p).fit := ⟨h.ok.step, C.small_tick h.x.y.a, C.small_tick h.x.y.b, h.x.y.l⟩
theorem Fair.fit.run {p : Fair} (h : p.fit) (n : Nat) : (frRun n p).fit := by
  induction n generalizing p with
  | zero => exact h
  | succ n ih => exact ih h.step
theorem foldl_at {α β : Type} (f : α → β → α) (a : α) (l : List β) (i : Nat) {x : β} (h : l[i]? = some x) : (l.take (i + 1)).foldl f a = f ((l.take i).foldl f a) x := by
  rw [List.take_add_one, h, List.foldl_append]
  rfl
def frCheck (w n lost : Nat) : Bool := frEnds (frPlain (frSent n)) 100 (frStart (w + 1) 0 n lost)
end Go.Proofs.Ytclodmcdimaccaa
