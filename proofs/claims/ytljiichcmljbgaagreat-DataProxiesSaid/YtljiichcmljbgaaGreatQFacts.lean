/- Facts that the operations of a drawn region leave, each kept by all the others. No program in sight. -/
import Derived.Test.YtljiichcmljbgaaGreatQLib
import Derived.Test.YtljiichcmljbgaaGreatQRely
namespace Go.Proofs.YtljiichcmljbgaaGreat
open Go.RowKit
set_option linter.unusedSimpArgs false
set_option linter.unusedVariables false

/-- What a region may do: write to the blocks F; J holds throughout; what operation i has settled (K i) stays. -/
structure Env where
  F : List Nat
  J : World → Prop
  K : Nat → Value → World → Prop
  late : List (Nat × Nat)
  hJ : ∀ w w', J w → Upd [] w w' → J w'
  hK : ∀ n v w w', K n v w → Upd [] w w' → K n v w'
/-- Nothing that was there is written. -/
def Env.pure : Env := ⟨[], fun _ => True, fun _ _ _ => True, [], fun _ _ _ _ => trivial, fun _ _ _ _ _ _ => trivial⟩
/-- One block is written whole, once, by operation i. -/
def Env.one (i g : Nat) (t : TypeId) (n : Nat) (cs : Array Value) : Env := ⟨[g], fun w => ∃ c : Array Value, Blk w g t c ∧ c.size = n, fun j _ w => bif j == i then Blk w g t cs else True, [],
  fun _ _ ⟨c, h, hn⟩ hu => ⟨c, h.upd hu (by simp), hn⟩, fun j _ _ _ h hu => by
    cases hj : j == i with
    | true => simp only [hj, cond_true] at h ⊢; exact h.upd hu (by simp)
    | false => simp only [hj, cond_false]⟩
structure Kept (E : Env) (i : Nat) (w w' : World) : Prop where
  upd : Upd E.F w w'
  kept : ∀ j v, j ≠ i → (i, j) ∉ E.late → E.K j v w → E.K j v w'
structure Inv (E : Env) (w0 w : World) : Prop where
  upd : Upd E.F w0 w
  hold : E.J w
theorem Kept.refl (E : Env) (i : Nat) (w : World) : Kept E i w w := ⟨Upd.refl _ _, fun _ _ _ _ h => h⟩
theorem Upd.more {F : List Nat} {w w' : World} (h : Upd [] w w') : Upd F w w' := h.mono (by simp)
theorem Kept.of_upd {E : Env} {i : Nat} {w w' : World} (h : Upd [] w w') : Kept E i w w' := ⟨h.more, fun j v _ _ hk => E.hK j v _ _ hk h⟩
theorem Inv.next {E : Env} {w0 w w' : World} (h : Inv E w0 w) (hu : Upd [] w w') : Inv E w0 w' := ⟨h.upd.trans hu.more, E.hJ _ _ h.hold hu⟩
/-- What is known of a value, and is kept where the blocks F alone are written. -/
structure Fact (E : Env) where
  p : Value → World → Prop
  keeps : ∀ v w w', p v w → Upd E.F w w' → p v w'
def Fact.is {E : Env} (x : Value) : Fact E := ⟨fun v _ => v = x, fun _ _ _ h _ => h⟩
def Fact.any {E : Env} : Fact E := ⟨fun _ _ => True, fun _ _ _ h _ => h⟩
def Fact.on {E : Env} (p : Value → World → Prop) (h : ∀ v w w', p v w → Upd E.F w w' → p v w') : Fact E := ⟨p, h⟩
/-- A block that the region made. -/
def Fact.made {E : Env} (lo : Nat) (hF : ∀ k ∈ E.F, k < lo) (n : Nat) (t : TypeId) (cs : Array Value) : Fact E :=
  ⟨fun v w => ∃ g, lo ≤ g ∧ v = .slice (some ⟨g, 0, none⟩) n n ∧ Blk w g t cs, fun v w w' ⟨g, h1, h2, h3⟩ hr => ⟨g, h1, h2, h3.upd hr fun hm => by have := hF g hm; omega⟩⟩
def factAt {E : Env} (l : List (Fact E)) (i : Nat) : Value → World → Prop := match l[i]? with
  | some f => f.p
  | none => fun _ _ => True
theorem factAt_keeps {E : Env} (l : List (Fact E)) (i : Nat) (v : Value) (w w' : World) (h : factAt l i v w) (hr : Upd E.F w w') : factAt l i v w' := by
  unfold factAt at *
  cases hl : l[i]? with
  | none => trivial
  | some f => simp only [hl] at h ⊢; exact f.keeps _ _ _ h hr
def Known (E : Env) (l : List (Fact E)) (i : Nat) (v : Value) (w : World) : Prop := factAt l i v w ∧ E.K i v w

theorem ev (a : Act) (t : Nat) : a.eval (.tmp t) = a.tmps[t]?.getD undef := by simp [Act.eval]

section
variable {P : Program} {ops : Array Oper} {Q : Exit → Act → World → Prop} {a0 : Act} {w0 : World}
theorem Steps.nil {D : Nat → Value → World → Prop} {I : World → Prop} {R : Nat → World → World → Prop} {i : Nat} : Steps P ops Q a0 D I R i [] := trivial
theorem Steps.cons {D : Nat → Value → World → Prop} {I : World → Prop} {R : Nat → World → World → Prop} {i : Nat} {o : Oper} {r : List Oper} (h : StepTo P ops Q a0 D I R i o) (t : Steps P ops Q a0 D I R (i + 1) r) : Steps P ops Q a0 D I R i (o :: r) := ⟨h, t⟩

theorem wp_region_facts {id : Nat} (E : Env) (hJ : E.J w0) (facts : List (Fact E))
    (hm : P.follows .mixedOrders = true) (hlate : (E.late.all fun p => (behind p.1 ops.toList []).getD p.2 false) = true) (ht : tidy ops = true) (hin : (ops.all fun o => match o.dst with | some d => decide (d < a0.tmps.size) | none => true) = true)
    (hs : Steps P ops Q a0 (Known E facts) (Inv E w0) (Kept E) 0 ops.toList)
    (hend : ∀ vals w, Upd E.F w0 w → (∀ i, i < ops.size → Known E facts i (vals i) w) → Q .normal (putAll vals 0 ops.toList a0) w) : (Code.region id ops true).wp P Q a0 w0 :=
  wp_region_rely (Known E facts) (Inv E w0) (Kept E) hm ht hin E.late hlate (fun i j v w w' hji hl h hr => ⟨factAt_keeps facts j v w w' h.1 hr.upd, hr.kept j v hji hl h.2⟩)
    ⟨(Upd.refl E.F w0).drew, E.hJ _ _ hJ (Upd.refl [] w0).drew⟩ hs (fun vals w hi hv => hend vals w hi.upd hv)

variable {E : Env} {facts : List (Fact E)}
/-- The operation yields x, whatever the world. -/
theorem step_is {i : Nat} {o : Oper} (x : Value) (hg : o.guard = none) (hd : ∃ d, o.dst = some d) (hf : factAt facts i = fun v _ => v = x) (hk : ∀ v w, E.K i v w)
    (h : ∀ a w, Inv E w0 w → (∀ t, freeAt ops i t = true → a.eval (.tmp t) = a0.eval (.tmp t)) → (∀ e ∈ o.after, Region.binds .any e = true → Known E facts e.on (leftAt ops a e.on) w) → (execOp a.eval o).run P w = .ok (.value x) w) :
    StepTo P ops Q a0 (Known E facts) (Inv E w0) (Kept E) i o := by
  intro a w hI hF hD
  rw [if_pos (by simp [Region.wanted, hg])]
  obtain ⟨d, hd⟩ := hd
  unfold Oper.wp
  rw [h a w hI hF hD]
  exact ⟨x, rfl, hI, Kept.refl _ _ _, by rw [hf, hd]; simp, hk _ _⟩
/-- The operation runs to a value, the world after it. -/
theorem step_run {i : Nat} {o : Oper} (hg : o.guard = none) (hk : ∀ v w, E.K i v w)
    (h : ∀ a w, Inv E w0 w → (∀ t, freeAt ops i t = true → a.eval (.tmp t) = a0.eval (.tmp t)) → (∀ e ∈ o.after, Region.binds .any e = true → Known E facts e.on (leftAt ops a e.on) w) →
      ∃ x w', (execOp a.eval o).run P w = .ok (.value x) w' ∧ Upd [] w w' ∧ factAt facts i (if o.dst = none then undef else x) w') :
    StepTo P ops Q a0 (Known E facts) (Inv E w0) (Kept E) i o := by
  intro a w hI hF hD
  rw [if_pos (by simp [Region.wanted, hg])]
  obtain ⟨x, w', h1, h2, h3⟩ := h a w hI hF hD
  unfold Oper.wp
  rw [h1]
  exact ⟨x, rfl, hI.next h2, .of_upd h2, h3, hk _ _⟩
/-- The operation yields a value and writes. -/
theorem step_gen {i : Nat} {o : Oper} (hg : o.guard = none) (hd : ∃ d, o.dst = some d)
    (h : ∀ a w, Inv E w0 w → (∀ t, freeAt ops i t = true → a.eval (.tmp t) = a0.eval (.tmp t)) → (∀ e ∈ o.after, Region.binds .any e = true → Known E facts e.on (leftAt ops a e.on) w) →
      ∃ x w', (execOp a.eval o).run P w = .ok (.value x) w' ∧ Upd E.F w w' ∧ E.J w' ∧ (∀ j v, j ≠ i → (i, j) ∉ E.late → E.K j v w → E.K j v w') ∧ Upd E.F w0 w' ∧ factAt facts i x w' ∧ E.K i x w') :
    StepTo P ops Q a0 (Known E facts) (Inv E w0) (Kept E) i o := by
  intro a w hI hF hD
  rw [if_pos (by simp [Region.wanted, hg])]
  obtain ⟨x, w', h1, h2, h3, h4, h5, h6, h7⟩ := h a w hI hF hD
  obtain ⟨d, hd⟩ := hd
  unfold Oper.wp
  rw [h1]
  exact ⟨x, rfl, ⟨h5, h3⟩, ⟨h2, h4⟩, by rw [if_neg (by rw [hd]; simp)]; exact ⟨h6, h7⟩⟩
/-- The operation writes. -/
theorem step_set {i : Nat} {o : Oper} (hg : o.guard = none) (hd : o.dst = none) (hf : factAt facts i = fun _ _ => True)
    (h : ∀ a w, Inv E w0 w → (∀ t, freeAt ops i t = true → a.eval (.tmp t) = a0.eval (.tmp t)) → (∀ e ∈ o.after, Region.binds .any e = true → Known E facts e.on (leftAt ops a e.on) w) →
      ∃ w', (execOp a.eval o).run P w = .ok .skip w' ∧ Upd E.F w w' ∧ E.J w' ∧ E.K i undef w' ∧ ∀ j v, j ≠ i → (i, j) ∉ E.late → E.K j v w → E.K j v w') :
    StepTo P ops Q a0 (Known E facts) (Inv E w0) (Kept E) i o := by
  intro a w hI hF hD
  rw [if_pos (by simp [Region.wanted, hg])]
  obtain ⟨w', h1, h2, h3, h4, h5⟩ := h a w hI hF hD
  unfold Oper.wp
  rw [h1]
  exact ⟨undef, rfl, ⟨hI.upd.trans h2, h3⟩, ⟨h2, h5⟩, by rw [hf]; trivial, by rw [if_pos hd]; exact h4⟩
/-- The operation is a call. -/
theorem step_call {i : Nat} {o : Oper} (hg : o.guard = none) (hk : ∀ v w, E.K i v w)
    (h : ∀ a w, Inv E w0 w → (∀ t, freeAt ops i t = true → a.eval (.tmp t) = a0.eval (.tmp t)) → (∀ e ∈ o.after, Region.binds .any e = true → Known E facts e.on (leftAt ops a e.on) w) →
      ∃ f args, (execOp a.eval o).run P w = .ok (.enter f args) w ∧ Calls P f args w fun e w' => ∃ x, e = .returned x ∧ Upd [] w w' ∧ factAt facts i (if o.dst = none then undef else x) w') :
    StepTo P ops Q a0 (Known E facts) (Inv E w0) (Kept E) i o := by
  intro a w hI hF hD
  rw [if_pos (by simp [Region.wanted, hg])]
  obtain ⟨f, args, h1, h2⟩ := h a w hI hF hD
  unfold Oper.wp
  rw [h1]
  refine Calls.mono h2 ?_
  rintro e w' ⟨x, rfl, h3, h4⟩
  exact ⟨x, rfl, hI.next h3, .of_upd h3, h4, hk _ _⟩
end

theorem arr1 {c : Array Value} (h : c.size = 1) : ∃ x, c = #[x] := by
  obtain ⟨l⟩ := c
  match l, h with
  | [x], _ => exact ⟨x, rfl⟩
theorem arr2 {c : Array Value} (h : c.size = 2) : ∃ x y, c = #[x, y] := by
  obtain ⟨l⟩ := c
  match l, h with
  | [x, y], _ => exact ⟨x, y, rfl⟩
theorem arr3 {c : Array Value} (h : c.size = 3) : ∃ x y z, c = #[x, y, z] := by
  obtain ⟨l⟩ := c
  match l, h with
  | [x, y, z], _ => exact ⟨x, y, z, rfl⟩
theorem arr4 {c : Array Value} (h : c.size = 4) : ∃ x y z u, c = #[x, y, z, u] := by
  obtain ⟨l⟩ := c
  match l, h with
  | [x, y, z, u], _ => exact ⟨x, y, z, u, rfl⟩
theorem arr5 {c : Array Value} (h : c.size = 5) : ∃ x y z u v, c = #[x, y, z, u, v] := by
  obtain ⟨l⟩ := c
  match l, h with
  | [x, y, z, u, v], _ => exact ⟨x, y, z, u, v, rfl⟩
/-- One slice grows, by operation i; operation k hands its value on. -/
def Env.grow (i k : Nat) (e : TypeId) (size lo : Nat) (v : Value) (n : Nat) (xs : List Value) (own : List Nat) (m : Nat) (ys : List Value) : Env :=
  ⟨own, fun w => Own w e size v n xs own, fun j v' w => bif j == i || j == k then ∃ g off cap own', v' = .slice (some ⟨g, off, none⟩) m cap ∧ Own w e size v' m ys own' ∧ ∀ k, k ∈ own' → k ∈ own ∨ lo ≤ k else True, [(i, k)],
    fun _ _ h hu => h.upd hu (by simp), fun j v' _ _ h hu => by
    cases hj : j == i || j == k with
    | true => simp only [hj, cond_true] at h ⊢; obtain ⟨g, off, cap, own', h1, h2, h3⟩ := h; exact ⟨g, off, cap, own', h1, h2.upd hu (by simp), h3⟩
    | false => simp only [hj, cond_false]⟩
/-- The append itself, and the value handed on. -/
theorem Env.grow_set {i k : Nat} {e : TypeId} {size lo : Nat} {v : Value} {n : Nat} {xs : List Value} {own : List Nat} {m : Nat} {ys : List Value} {w0 w w' : World} {x : Value}
    (hu : Upd own w0 w) (r4 : Upd own w w') (r5 : Own w' e size v n xs own) (hx : ∃ g off cap own', x = .slice (some ⟨g, off, none⟩) m cap ∧ Own w' e size x m ys own' ∧ ∀ k, k ∈ own' → k ∈ own ∨ lo ≤ k) :
    Upd (Env.grow i k e size lo v n xs own m ys).F w w' ∧ (Env.grow i k e size lo v n xs own m ys).J w' ∧
      (∀ j v', j ≠ i → (i, j) ∉ (Env.grow i k e size lo v n xs own m ys).late → (Env.grow i k e size lo v n xs own m ys).K j v' w → (Env.grow i k e size lo v n xs own m ys).K j v' w') ∧
      Upd (Env.grow i k e size lo v n xs own m ys).F w0 w' ∧ True ∧ (Env.grow i k e size lo v n xs own m ys).K i x w' :=
  ⟨r4, r5, fun j v' hj hl _ => by
    have h1 : (j == i || j == k) = false := by
      simp only [Env.grow, List.mem_singleton, Prod.mk.injEq, true_and] at hl
      simp [hj, hl]
    simp only [Env.grow, h1, cond_false], hu.trans r4, trivial, by simp only [Env.grow, BEq.rfl, Bool.true_or, cond_true]; exact hx⟩
theorem Env.grow_get {i k : Nat} {e : TypeId} {size lo : Nat} {v : Value} {n : Nat} {xs : List Value} {own : List Nat} {m : Nat} {ys : List Value} {w : World} {x : Value} (j : Nat) (hj : (j == i || j == k) = true)
    (h : (Env.grow i k e size lo v n xs own m ys).K j x w) : ∃ g off cap own', x = .slice (some ⟨g, off, none⟩) m cap ∧ Own w e size x m ys own' ∧ ∀ k, k ∈ own' → k ∈ own ∨ lo ≤ k := by
  simp only [Env.grow, hj, cond_true] at h
  exact h
theorem Env.grow_on {i k : Nat} {e : TypeId} {size lo : Nat} {v : Value} {n : Nat} {xs : List Value} {own : List Nat} {m : Nat} {ys : List Value} {w0 w : World} {x : Value}
    (hi : Inv (Env.grow i k e size lo v n xs own m ys) w0 w) (hx : (Env.grow i k e size lo v n xs own m ys).K i x w) :
    Upd (Env.grow i k e size lo v n xs own m ys).F w w ∧ (Env.grow i k e size lo v n xs own m ys).J w ∧
      (∀ j v', j ≠ k → (k, j) ∉ (Env.grow i k e size lo v n xs own m ys).late → (Env.grow i k e size lo v n xs own m ys).K j v' w → (Env.grow i k e size lo v n xs own m ys).K j v' w) ∧
      Upd (Env.grow i k e size lo v n xs own m ys).F w0 w ∧ True ∧ (Env.grow i k e size lo v n xs own m ys).K k x w :=
  ⟨Upd.refl _ _, hi.hold, fun _ _ _ _ h => h, hi.upd, trivial, by
    have := Env.grow_get i (by simp) hx
    simp only [Env.grow, BEq.rfl, Bool.or_true, cond_true]; exact this⟩
/-- A struct of n fields stored whole into a block of n cells. -/
theorem Env.one_set {i g : Nat} {t : TypeId} {n : Nat} {cs : Array Value} {w w' : World} (hu : Upd [g] w w') (hb : Blk w' g t cs) (hn : cs.size = n) :
    Upd (Env.one i g t n cs).F w w' ∧ (Env.one i g t n cs).J w' ∧ (Env.one i g t n cs).K i undef w' ∧ ∀ j v, j ≠ i → (i, j) ∉ (Env.one i g t n cs).late → (Env.one i g t n cs).K j v w → (Env.one i g t n cs).K j v w' :=
  ⟨hu, ⟨cs, hb, hn⟩, by simp [Env.one, hb], fun j v hj _ _ => by simp [Env.one, hj]⟩
theorem exec_append {P : Program} {o : Oper} {a : Act} {s x : Operand} {t : TypeId} {v u r : Value} {w w' : World} (ho : o.op = .call { callee := .builtin .append, args := #[s, x], argTypes := #[t, t] })
    (hs : a.eval s = v) (hx : a.eval x = u) (hrun : (Builtin.append_ #[t, t] o.type #[v, u]).run P w = .ok r w') : (execOp a.eval o).run P w = .ok (.value r) w' := by
  unfold execOp
  simp only [ho, resolve, invoke, builtin, Sem.run_bind, Sem.run_pure, Result.andThen_ok, List.map_toArray, List.map_cons, List.map_nil, hs, hx, hrun]
end Go.Proofs.YtljiichcmljbgaaGreat
