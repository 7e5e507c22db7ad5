/- Facts that the operations of a drawn region leave, each kept by all the others. No program in sight. -/
import Derived.Test.YtopgphbmlcophaaLib
import Derived.Test.YtopgphbmlcophaaRely
namespace Go.Proofs.Ytopgphbmlcophaa
open Go.RowKit

/-- What a region may do: write to the blocks F; J holds throughout; what is settled (K 0, K 1, ..) stays. -/
structure Env where
  F : List Nat
  J : World → Prop
  K : Nat → World → Prop
  hJ : ∀ w w', J w → Upd [] w w' → J w'
  hK : ∀ n w w', K n w → Upd [] w w' → K n w'
/-- Nothing that was there is written. -/
def Env.pure : Env := ⟨[], fun _ => True, fun _ _ => True, fun _ _ _ _ => trivial, fun _ _ _ _ _ => trivial⟩
/-- One block is written whole, once. -/
def Env.one (g : Nat) (t : TypeId) (n : Nat) (cs : Array Value) : Env := ⟨[g], fun w => ∃ c : Array Value, Blk w g t c ∧ c.size = n, fun _ w => Blk w g t cs,
  fun _ _ ⟨c, h, hn⟩ hu => ⟨c, h.upd hu (by simp), hn⟩, fun _ _ _ h hu => h.upd hu (by simp)⟩
structure Kept (E : Env) (w w' : World) : Prop where
  upd : Upd E.F w w'
  kept : ∀ n, E.K n w → E.K n w'
structure Inv (E : Env) (w0 w : World) : Prop where
  upd : Upd E.F w0 w
  hold : E.J w
theorem Kept.refl (E : Env) (w : World) : Kept E w w := ⟨Upd.refl _ _, fun _ h => h⟩
theorem Upd.more {F : List Nat} {w w' : World} (h : Upd [] w w') : Upd F w w' := h.mono (by simp)
theorem Kept.of_upd {E : Env} {w w' : World} (h : Upd [] w w') : Kept E w w' := ⟨h.more, fun n hk => E.hK n _ _ hk h⟩
theorem Inv.next {E : Env} {w0 w w' : World} (h : Inv E w0 w) (hu : Upd [] w w') : Inv E w0 w' := ⟨h.upd.trans hu.more, E.hJ _ _ h.hold hu⟩
theorem Upd.upd {w0 w : World} (h : Upd [] w0 w) : Upd [] w0 w := h
/-- What is known of a value, and is kept. -/
structure Fact (R : World → World → Prop) where
  p : Value → World → Prop
  keeps : ∀ v w w', p v w → R w w' → p v w'
def Fact.is {R : World → World → Prop} (x : Value) : Fact R := ⟨fun v _ => v = x, fun _ _ _ h _ => h⟩
def Fact.any {R : World → World → Prop} : Fact R := ⟨fun _ _ => True, fun _ _ _ h _ => h⟩
def Fact.on {E : Env} (p : Value → World → Prop) (h : ∀ v w w', p v w → Upd E.F w w' → p v w') : Fact (Kept E) := ⟨p, fun v w w' hp hr => h v w w' hp hr.upd⟩
/-- A block that the region made. -/
def Fact.made {E : Env} (lo : Nat) (hF : ∀ k ∈ E.F, k < lo) (n : Nat) (t : TypeId) (cs : Array Value) : Fact (Kept E) :=
  ⟨fun v w => ∃ g, lo ≤ g ∧ v = .slice (some ⟨g, 0, none⟩) n n ∧ Blk w g t cs, fun v w w' ⟨g, h1, h2, h3⟩ hr => ⟨g, h1, h2, h3.upd hr.upd fun hm => by have := hF g hm; omega⟩⟩
def Fact.sets {E : Env} (n : Nat) : Fact (Kept E) := ⟨fun _ w => E.K n w, fun _ _ _ h hr => hr.kept n h⟩
def factAt {R : World → World → Prop} (l : List (Fact R)) (i : Nat) : Value → World → Prop := match l[i]? with
  | some f => f.p
  | none => fun _ _ => True
theorem factAt_keeps {R : World → World → Prop} (l : List (Fact R)) (i : Nat) (v : Value) (w w' : World) (h : factAt l i v w) (hr : R w w') : factAt l i v w' := by
  unfold factAt at *
  cases hl : l[i]? with
  | none => trivial
  | some f => simp only [hl] at h ⊢; exact f.keeps _ _ _ h hr

theorem ev (a : Act) (t : Nat) : a.eval (.tmp t) = a.tmps[t]?.getD undef := by simp [Act.eval]

section
variable {P : Program} {ops : Array Oper} {Q : Exit → Act → World → Prop} {a0 : Act} {w0 : World}
theorem Steps.nil {D : Nat → Value → World → Prop} {I : World → Prop} {R : World → World → Prop} {i : Nat} : Steps P ops Q a0 D I R i [] := trivial
theorem Steps.cons {D : Nat → Value → World → Prop} {I : World → Prop} {R : World → World → Prop} {i : Nat} {o : Oper} {r : List Oper} (h : StepTo P ops Q a0 D I R i o) (t : Steps P ops Q a0 D I R (i + 1) r) : Steps P ops Q a0 D I R i (o :: r) := ⟨h, t⟩

theorem wp_region_facts {id : Nat} (E : Env) (hJ : E.J w0) (facts : List (Fact (Kept E)))
    (hm : P.follows .mixedOrders = true) (ht : tidy ops = true) (hin : (ops.all fun o => match o.dst with | some d => decide (d < a0.tmps.size) | none => true) = true)
    (hs : Steps P ops Q a0 (factAt facts) (Inv E w0) (Kept E) 0 ops.toList)
    (hend : ∀ vals w, Upd E.F w0 w → (∀ i, i < ops.size → factAt facts i (vals i) w) → Q .normal (putAll vals 0 ops.toList a0) w) : (Code.region id ops true).wp P Q a0 w0 :=
  wp_region_rely (factAt facts) (Inv E w0) (Kept E) hm ht hin (factAt_keeps facts) ⟨(Upd.refl E.F w0).drew, E.hJ _ _ hJ (Upd.refl [] w0).drew⟩ hs (fun vals w hi hv => hend vals w hi.upd hv)

variable {E : Env} {facts : List (Fact (Kept E))}
/-- The operation yields x, whatever the world. -/
theorem step_is {i : Nat} {o : Oper} (x : Value) (hg : o.guard = none) (hd : ∃ d, o.dst = some d) (hf : factAt facts i = fun v _ => v = x)
    (h : ∀ a w, Inv E w0 w → (∀ t, freeAt ops i t = true → a.eval (.tmp t) = a0.eval (.tmp t)) → (∀ e ∈ o.after, Region.binds .any e = true → factAt facts e.on (leftAt ops a e.on) w) → (execOp a.eval o).run P w = .ok (.value x) w) :
    StepTo P ops Q a0 (factAt facts) (Inv E w0) (Kept E) i o := by
  intro a w hI hF hD
  rw [if_pos (by simp [Region.wanted, hg])]
  obtain ⟨d, hd⟩ := hd
  unfold Oper.wp
  rw [h a w hI hF hD]
  exact ⟨x, rfl, hI, Kept.refl _ _, by rw [hf, hd]; simp⟩
/-- The operation runs to a value, the world after it. -/
theorem step_run {i : Nat} {o : Oper} (hg : o.guard = none)
    (h : ∀ a w, Inv E w0 w → (∀ t, freeAt ops i t = true → a.eval (.tmp t) = a0.eval (.tmp t)) → (∀ e ∈ o.after, Region.binds .any e = true → factAt facts e.on (leftAt ops a e.on) w) →
      ∃ x w', (execOp a.eval o).run P w = .ok (.value x) w' ∧ Upd [] w w' ∧ factAt facts i (if o.dst = none then undef else x) w') :
    StepTo P ops Q a0 (factAt facts) (Inv E w0) (Kept E) i o := by
  intro a w hI hF hD
  rw [if_pos (by simp [Region.wanted, hg])]
  obtain ⟨x, w', h1, h2, h3⟩ := h a w hI hF hD
  unfold Oper.wp
  rw [h1]
  exact ⟨x, rfl, hI.next h2, .of_upd h2, h3⟩
/-- The operation writes. -/
theorem step_set {i : Nat} (n : Nat) {o : Oper} (hg : o.guard = none) (hd : o.dst = none) (hf : factAt facts i = fun _ w => E.K n w)
    (h : ∀ a w, Inv E w0 w → (∀ t, freeAt ops i t = true → a.eval (.tmp t) = a0.eval (.tmp t)) → (∀ e ∈ o.after, Region.binds .any e = true → factAt facts e.on (leftAt ops a e.on) w) →
      ∃ w', (execOp a.eval o).run P w = .ok .skip w' ∧ Upd E.F w w' ∧ E.J w' ∧ E.K n w' ∧ ∀ m, E.K m w → E.K m w') :
    StepTo P ops Q a0 (factAt facts) (Inv E w0) (Kept E) i o := by
  intro a w hI hF hD
  rw [if_pos (by simp [Region.wanted, hg])]
  obtain ⟨w', h1, h2, h3, h4, h5⟩ := h a w hI hF hD
  unfold Oper.wp
  rw [h1]
  exact ⟨undef, rfl, ⟨hI.upd.trans h2, h3⟩, ⟨h2, h5⟩, by rw [hf, hd]; exact h4⟩
/-- The operation is a call. -/
theorem step_call {i : Nat} {o : Oper} (hg : o.guard = none)
    (h : ∀ a w, Inv E w0 w → (∀ t, freeAt ops i t = true → a.eval (.tmp t) = a0.eval (.tmp t)) → (∀ e ∈ o.after, Region.binds .any e = true → factAt facts e.on (leftAt ops a e.on) w) →
      ∃ f args, (execOp a.eval o).run P w = .ok (.enter f args) w ∧ Calls P f args w fun e w' => ∃ x, e = .returned x ∧ Upd [] w w' ∧ factAt facts i (if o.dst = none then undef else x) w') :
    StepTo P ops Q a0 (factAt facts) (Inv E w0) (Kept E) i o := by
  intro a w hI hF hD
  rw [if_pos (by simp [Region.wanted, hg])]
  obtain ⟨f, args, h1, h2⟩ := h a w hI hF hD
  unfold Oper.wp
  rw [h1]
  refine Calls.mono h2 ?_
  rintro e w' ⟨x, rfl, h3, h4⟩
  exact ⟨x, rfl, hI.next h3, .of_upd h3, h4⟩
end

theorem arr1 {c : Array Value} (h : c.size = 1) : ∃ x, c = #[x] := by
  obtain ⟨l⟩ := c
  match l, h with
  | [x], _ => exact ⟨x, rfl⟩
theorem arr2 {c : Array Value} (h : c.size = 2) : ∃ x y, c = #[x, y] := by
  obtain ⟨l⟩ := c
  match l, h with
  | [x, y], _ => exact ⟨x, y, rfl⟩
theorem arr3 {c : Array Value} (h : c.size = 3) : ∃ x y z, c = #[x, y, z] := by
  obtain ⟨l⟩ := c
  match l, h with
  | [x, y, z], _ => exact ⟨x, y, z, rfl⟩
theorem arr5 {c : Array Value} (h : c.size = 5) : ∃ x y z u v, c = #[x, y, z, u, v] := by
  obtain ⟨l⟩ := c
  match l, h with
  | [x, y, z, u, v], _ => exact ⟨x, y, z, u, v, rfl⟩
/-- A struct of n fields stored whole into a block of n cells. -/
theorem Env.one_set {g : Nat} {t : TypeId} {n : Nat} {cs : Array Value} {w w' : World} (hu : Upd [g] w w') (hb : Blk w' g t cs) (hn : cs.size = n) :
    Upd (Env.one g t n cs).F w w' ∧ (Env.one g t n cs).J w' ∧ (Env.one g t n cs).K 0 w' ∧ ∀ m, (Env.one g t n cs).K m w → (Env.one g t n cs).K m w' :=
  ⟨hu, ⟨cs, hb, hn⟩, hb, fun _ _ => hb⟩
end Go.Proofs.Ytopgphbmlcophaa
