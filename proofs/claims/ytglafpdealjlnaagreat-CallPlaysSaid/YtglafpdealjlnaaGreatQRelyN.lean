/- Maps with keys of any small type, as lists of pairs. No program in sight. Regions that draw their order, with what holds until an operation has come up. No program in sight. The region of a map literal: whatever the order, the map holds its table. No program in sight. -/
import Derived.Maps.Own
import Derived.Test.YtglafpdealjlnaaGreatQLib
import Derived.Test.YtglafpdealjlnaaGreatQRely
namespace Go.Proofs.YtglafpdealjlnaaGreat
open Go.RowKit Go.Maps
open Go.ChangeMaps (setBlock heap_setBlock_same heap_setBlock_other)
set_option linter.unusedSimpArgs false
set_option linter.unusedVariables false

/-- The place and value of a key, from i on. -/
def lookIx {κ : Type} [DecidableEq κ] (k : κ) : List (κ × Value) → Nat → Option (Nat × Value)
  | [], _ => none
  | p :: m, i => if k = p.1 then some (i, p.2) else lookIx k m (i + 1)
/-- What a key's type must offer. -/
structure KeyEnc (κ : Type) [DecidableEq κ] (P : Program) (K : TypeId) (enc : κ → Value) : Prop where
  check : ∀ em a w, (Instr.checkKey em 10000 K (enc a)).run P w = .ok () w
  find : ∀ k (m : List (κ × Value)) (es : List MapEntry) w, es.map (fun e => (e.key, e.val)) = m.map (fun p => (enc p.1, p.2)) → (Instr.findKey K (enc k) es).run P w = .ok (lookIx k m 0) w
  bits : ∀ a, Instr.sameBits 10000 (enc a) (enc a) = true
/-- The stamps of a map's entries: behind one another, each once. -/
def Stamped (es : Array MapEntry) (clock : Nat) : Prop := (∀ e ∈ es.toList, e.born < clock) ∧ (es.toList.map (·.born)).Nodup
theorem Stamped.push {es : Array MapEntry} {clock : Nat} (h : Stamped es clock) (k v : Value) : Stamped (es.push { key := k, val := v, born := clock }) (clock + 1) := by
  refine ⟨?_, ?_⟩
  · intro e he
    simp only [Array.toList_push, List.mem_append, List.mem_singleton] at he
    rcases he with he | rfl
    · have := h.1 e he; omega
    · exact Nat.lt_succ_self _
  · rw [Array.toList_push, List.map_append, List.nodup_append]
    refine ⟨h.2, by simp, ?_⟩
    intro a ha b hb
    simp only [List.map_cons, List.map_nil, List.mem_singleton] at hb
    subst hb
    obtain ⟨e, he, rfl⟩ := List.mem_map.1 ha
    have := h.1 e he
    omega
theorem Stamped.modify {es : Array MapEntry} {clock : Nat} (h : Stamped es clock) (j : Nat) (k v : Value) : Stamped (es.modify j fun e => { e with key := k, val := v }) clock := by
  have hb : (es.modify j fun e => { e with key := k, val := v }).toList.map (·.born) = es.toList.map (·.born) := by
    apply List.ext_getElem?
    intro i
    simp only [List.getElem?_map, Array.getElem?_toList, Array.getElem?_modify]
    by_cases hij : j = i
    · subst hij
      rw [if_pos rfl]
      cases es[j]? <;> rfl
    · rw [if_neg hij]
  refine ⟨fun e he => ?_, by rw [hb]; exact h.2⟩
  have : e.born ∈ es.toList.map (·.born) := by rw [← hb]; exact List.mem_map.2 ⟨e, he, rfl⟩
  obtain ⟨e', he', hee⟩ := List.mem_map.1 this
  have := h.1 e' he'
  rw [← hee]; exact this
/-- Block g is a map that holds these pairs. -/
def HoldsM {κ : Type} (enc : κ → Value) (w : World) (g : Nat) (m : List (κ × Value)) : Prop :=
  ∃ es clock, w.heap[g]? = some (.map es clock) ∧ es.toList.map (fun e => (e.key, e.val)) = m.map (fun p => (enc p.1, p.2)) ∧ Stamped es clock

section
variable {κ : Type} [DecidableEq κ] {P : Program} {K E T : TypeId} {enc : κ → Value}

theorem run_findAsking (heq : ∀ a b w, (Op.equal K (enc a) (enc b)).run P w = .ok (decide (a = b)) w) (k : κ) (w : World) : ∀ (m : List (κ × Value)) (es : List MapEntry) (i : Nat),
    es.map (fun e => (e.key, e.val)) = m.map (fun p => (enc p.1, p.2)) → (Instr.findAsking K (enc k) es i).run P w = .ok (lookIx k m i) w
  | [], es, i, h => by
    have : es = [] := by simpa using h
    subst this
    rfl
  | p :: m, [], i, h => by simp at h
  | p :: m, e :: es, i, h => by
    simp only [List.map_cons, List.cons.injEq, Prod.mk.injEq] at h
    obtain ⟨⟨h1, h2⟩, h3⟩ := h
    have ih := run_findAsking heq k w m es (i + 1) h3
    rw [Instr.findAsking, lookIx, h1]
    simp only [Sem.run_bind, heq, Result.andThen_ok]
    by_cases hk : k = p.1
    · simp [hk, h2]
    · simp [hk, ih]
theorem KeyEnc.of_struct {d : TypeDesc} (hK : P.underlying K = some d) (hnow : ∀ a b, Instr.sameNow d (enc a) (enc b) = none) (heq : ∀ a b w, (Op.equal K (enc a) (enc b)).run P w = .ok (decide (a = b)) w)
    (check : ∀ em a w, (Instr.checkKey em 10000 K (enc a)).run P w = .ok () w) (bits : ∀ a, Instr.sameBits 10000 (enc a) (enc a) = true) : KeyEnc κ P K enc := by
  refine ⟨check, fun k m es w h => ?_, bits⟩
  unfold Instr.findKey
  simp only [Sem.run_bind, run_underlying hK, Result.andThen_ok]
  cases es with
  | nil =>
    have : m = [] := by simpa using h.symm
    subst this
    rfl
  | cons e es =>
    cases m with
    | nil => simp at h
    | cons p m =>
      have h1 : e.key = enc p.1 := by
        simp only [List.map_cons, List.cons.injEq, Prod.mk.injEq] at h
        exact h.1.1
      have : Instr.findNow d (enc k) (e :: es) 0 = none := by rw [Instr.findNow, h1, hnow]
      rw [this]
      exact run_findAsking heq k w (p :: m) (e :: es) 0 h

theorem lookIx_none {k : κ} : ∀ {m : List (κ × Value)} {i : Nat}, lookIx k m i = none → ∀ p ∈ m, p.1 ≠ k
  | [], _, _ => by simp
  | p :: m, i, h => by
    rw [lookIx] at h
    by_cases hk : k = p.1
    · rw [if_pos hk] at h; cases h
    · rw [if_neg hk] at h
      intro q hq
      rcases List.mem_cons.1 hq with rfl | hq
      · exact fun e => hk e.symm
      · exact lookIx_none h q hq
theorem lookIx_some {k : κ} {v : Value} : ∀ {m : List (κ × Value)} {i j : Nat}, lookIx k m i = some (j, v) → ∃ n, j = i + n ∧ m[n]? = some (k, v)
  | [], _, _, h => by cases h
  | p :: m, i, j, h => by
    rw [lookIx] at h
    by_cases hk : k = p.1
    · rw [if_pos hk] at h
      simp only [Option.some.injEq, Prod.mk.injEq] at h
      exact ⟨0, by omega, by simp [hk, ← h.2]⟩
    · rw [if_neg hk] at h
      obtain ⟨n, hn, hm⟩ := lookIx_some h
      exact ⟨n + 1, by omega, by simpa using hm⟩

/-- A pair is put that the map holds not at all, or just so. -/
theorem HoldsM.put {w : World} {g : Nat} {m : List (κ × Value)} (h : HoldsM enc w g m) (kl : KeyEnc κ P K enc) (hT : P.underlying T = some (.map K E)) (k : κ) (v : Value) (hv : ∀ p ∈ m, p.1 = k → p.2 = v) :
    ∃ w' m', (Instr.mapUpdate T (.map (some g)) (enc k) v).run P w = .ok () w' ∧ HoldsM enc w' g m' ∧ (m' = m ∨ m' = m ++ [(k, v)]) ∧ (k, v) ∈ m' ∧ Upd [g] w w' ∧ w'.heap.size = w.heap.size := by
  obtain ⟨es, clock, hb, hes, hst⟩ := h
  have hfind := kl.find k m es.toList w hes
  cases hl : lookIx k m 0 with
  | none =>
    refine ⟨setBlock w g (.map (es.push { key := enc k, val := v, born := clock }) (clock + 1)), m ++ [(k, v)], ?_, ⟨_, _, heap_setBlock_same hb _, by simp [hes], hst.push _ _⟩, .inr rfl, by simp,
      ⟨rfl, rfl, rfl, by simp [setBlock], fun i _ hi => heap_setBlock_other hb _ (fun e => hi (by rw [e]; simp))⟩, by simp [setBlock]⟩
    rw [hl] at hfind
    simp [Instr.mapUpdate, run_underlying hT, MapKept.run_getObj_map hb, kl.check, hfind, MapKept.run_setObj_map _ hb, Result.andThen, setBlock]
  | some q =>
    obtain ⟨j, u⟩ := q
    obtain ⟨n, hn, hm⟩ := lookIx_some hl
    obtain rfl : j = n := by omega
    have hu : u = v := hv _ (List.mem_of_getElem? hm) rfl
    subst hu
    rw [hl] at hfind
    have hej : ∃ e, es[j]? = some e ∧ e.key = enc k ∧ e.val = u := by
      have := congrArg (fun l => l[j]?) hes
      simp only [List.getElem?_map, hm, Option.map_some, Array.getElem?_toList] at this
      cases he : es[j]? with
      | none => rw [he] at this; simp at this
      | some e =>
        rw [he] at this
        simp only [Option.map_some, Option.some.injEq, Prod.mk.injEq] at this
        exact ⟨e, rfl, this.1, this.2⟩
    obtain ⟨e, he, hek, hev⟩ := hej
    have hstay : ∀ w', (Instr.keyThatStays (enc k) (enc k)).run P w' = .ok (enc k) w' := fun w' => by
      unfold Instr.keyThatStays
      rw [if_pos (kl.bits k)]
      rfl
    refine ⟨setBlock w g (.map (es.modify j fun e => { e with key := enc k, val := u }) clock), m, ?_, ⟨_, _, heap_setBlock_same hb _, ?_, hst.modify _ _ _⟩, .inl rfl, List.mem_of_getElem? hm,
      ⟨rfl, rfl, rfl, by simp [setBlock], fun i _ hi => heap_setBlock_other hb _ (fun e => hi (by rw [e]; simp))⟩, by simp [setBlock]⟩
    · simp [Instr.mapUpdate, run_underlying hT, MapKept.run_getObj_map hb, kl.check, hfind, he, hek, hstay, MapKept.run_setObj_map _ hb, Result.andThen, setBlock]
    · rw [← hes]
      apply List.ext_getElem?
      intro i
      simp only [List.getElem?_map, Array.getElem?_toList, Array.getElem?_modify]
      by_cases hij : j = i
      · subst hij
        rw [if_pos rfl, he]
        simp [hek, hev]
      · rw [if_neg hij]
/-- A key is looked up. -/
theorem HoldsM.look {w : World} {g : Nat} {m : List (κ × Value)} (h : HoldsM enc w g m) (kl : KeyEnc κ P K enc) (hT : P.underlying T = some (.map K E)) {z : Value} (hz : (zeroValue E).run P w = .ok z w) (k : κ) :
    (Instr.lookup T (.map (some g)) (enc k) true).run P w = .ok (.tuple #[((lookIx k m 0).map (·.2)).getD z, .bool (lookIx k m 0).isSome]) w ∧ (Instr.lookup T (.map (some g)) (enc k) false).run P w = .ok (((lookIx k m 0).map (·.2)).getD z) w := by
  obtain ⟨es, clock, hb, hes, hst⟩ := h
  have hfind := kl.find k m es.toList w hes
  constructor
  all_goals
    cases hl : lookIx k m 0 with
    | none =>
      rw [hl] at hfind
      simp [Instr.lookup, run_underlying hT, MapKept.run_getObj_map hb, kl.check, hfind, hz, Result.andThen]
    | some q =>
      rw [hl] at hfind
      simp [Instr.lookup, run_underlying hT, MapKept.run_getObj_map hb, kl.check, hfind, Result.andThen]
end
end Go.Proofs.YtglafpdealjlnaaGreat
namespace Go.Proofs.YtglafpdealjlnaaGreat
open Go.RowKit

section
variable {P : Program} {ops : Array Oper} {Q : Exit → Act → World → Prop}

structure RelyN (ops : Array Oper) (a0 : Act) (D : Nat → Value → World → Prop) (I : World → Prop) (N : Nat → World → Prop) (l : Array Bool) (a : Act) (w : World) : Prop where
  inv : I w
  defs : a.defers = a0.defers
  size : a.tmps.size = a0.tmps.size
  off : ∀ t, (∀ j o, ops[j]? = some o → l.getD j false = true → o.dst ≠ some t) → a.eval (.tmp t) = a0.eval (.tmp t)
  on : ∀ j, l.getD j false = true → D j (leftAt ops a j) w
  closed : ∀ j o, ops[j]? = some o → l.getD j false = true → ∀ e ∈ o.after, Region.binds .any e = true → l.getD e.on false = true
  nyet : ∀ j, j < ops.size → l.getD j false = false → N j w

/-- What one operation must do. -/
def StepToN (P : Program) (ops : Array Oper) (Q : Exit → Act → World → Prop) (a0 : Act) (D : Nat → Value → World → Prop) (I : World → Prop) (N : Nat → World → Prop) (R : Nat → World → World → Prop) (i : Nat) (o : Oper) : Prop :=
  ∀ a w, I w → N i w → (∀ t, freeAt ops i t = true → a.eval (.tmp t) = a0.eval (.tmp t)) → (∀ e ∈ o.after, Region.binds .any e = true → D e.on (leftAt ops a e.on) w) →
    if Region.wanted o (yielded ops a.tmps) = true then o.wp P a w (fun a' w' => ∃ v, a' = a.put o.dst v ∧ I w' ∧ R i w w' ∧ D i (if o.dst = none then undef else v) w') Q else D i undef w
def StepsN (P : Program) (ops : Array Oper) (Q : Exit → Act → World → Prop) (a0 : Act) (D : Nat → Value → World → Prop) (I : World → Prop) (N : Nat → World → Prop) (R : Nat → World → World → Prop) : Nat → List Oper → Prop
  | _, [] => True
  | i, o :: r => StepToN P ops Q a0 D I N R i o ∧ StepsN P ops Q a0 D I N R (i + 1) r
theorem StepsN.get {a0 : Act} {D : Nat → Value → World → Prop} {I : World → Prop} {N : Nat → World → Prop} {R : Nat → World → World → Prop} : ∀ (l : List Oper) (n : Nat), StepsN P ops Q a0 D I N R n l → ∀ i o, l[i]? = some o → StepToN P ops Q a0 D I N R (n + i) o
  | [], _, _, _, _, h => by simp at h
  | p :: r, n, hs, 0, o, h => by simp at h; subst h; exact hs.1
  | p :: r, n, hs, i + 1, o, h => by
    have := StepsN.get r (n + 1) hs.2 i o (by simpa using h)
    rwa [show n + (i + 1) = n + 1 + i by omega]

theorem wp_region_relyN {id : Nat} {a0 : Act} {w0 : World} (D : Nat → Value → World → Prop) (I : World → Prop) (N : Nat → World → Prop) (R : Nat → World → World → Prop)
    (hm : P.follows .mixedOrders = true) (ht : tidy ops = true) (hin : (ops.all fun o => match o.dst with | some d => decide (d < a0.tmps.size) | none => true) = true)
    (late : List (Nat × Nat)) (hlate : (late.all fun p => (behind p.1 ops.toList []).getD p.2 false) = true)
    (hst : ∀ i j v w w', j ≠ i → (i, j) ∉ late → D j v w → R i w w' → D j v w') (hN : ∀ i j w w', j ≠ i → (j, i) ∉ late → N j w → R i w w' → N j w') (hN0 : ∀ j, N j w0.drew) (h0 : I w0.drew)
    (hs : StepsN P ops Q a0 D I N R 0 ops.toList)
    (hend : ∀ vals w, I w → (∀ i, i < ops.size → D i (vals i) w) → Q .normal (putAll vals 0 ops.toList a0) w) : (Code.region id ops true).wp P Q a0 w0 := by
  refine wp_region_any hm (wpAny_held (RelyN ops a0 D I N) ?_ ?_ ops.size _ a0 _ (by simp) (by simp) ?_)
  · intro l a w i hls hi hg
    obtain ⟨hun, o, ho, hall⟩ := mem_ready.1 hi
    have hisz : i < ops.size := (Array.getElem?_eq_some_iff.1 ho).1
    have hun' : l.getD i false = false := by
      have : i < l.size := by omega
      simpa [this] using hun
    have hstep : StepToN P ops Q a0 D I N R i o := by
      have := StepsN.get (P := P) (Q := Q) ops.toList 0 hs i o (by simpa using ho)
      rwa [Nat.zero_add] at this
    have h1 := hstep a w hg.inv (hg.nyet i hisz hun') (fun t hf => hg.off t fun j p hp hlj hd => by
      have hj : j < ops.size := (Array.getElem?_eq_some_iff.1 hp).1
      have := List.all_eq_true.1 hf j (by simpa using hj)
      simp only [hp, hd, Bool.or_eq_true, beq_iff_eq, bne_self_eq_false, Bool.false_eq_true, false_or] at this
      rcases this with rfl | hb
      · rw [hun'] at hlj; cases hlj
      · rw [behind_not hun' ops.toList [] [] rfl (fun j o ho => hg.closed j o (by simpa using ho)) (by simp) j (by simpa using hb)] at hlj; cases hlj)
      (fun e he hb => hg.on e.on (hall e he hb))
    have hsame : ∀ v j, j ≠ i → l.getD j false = true → leftAt ops (a.put o.dst v) j = leftAt ops a j := by
      intro v j hji hlj
      unfold leftAt
      cases hp : ops[j]? with
      | none => rfl
      | some p =>
        cases hd : p.dst with
        | none => simp [hd]
        | some d =>
          simp only [Option.bind_some, hd]
          cases hd' : o.dst with
          | none => rfl
          | some d' => exact eval_put_ne (fun e => hji (tidy_dst ht hp ho hd (by rw [hd', e])))
    have hself : ∀ v, leftAt ops (a.put o.dst v) i = if o.dst = none then undef else v := by
      intro v
      unfold leftAt
      simp only [ho, Option.bind_some]
      cases hd : o.dst with
      | none => simp
      | some d =>
        have := (Array.all_eq_true_iff_forall_mem.1 hin) o (Array.mem_of_getElem? ho)
        simp only [hd, decide_eq_true_eq] at this
        simp only [reduceCtorEq, if_false]
        exact eval_put_self (by rw [hg.size]; exact this)
    have hset : ∀ j, (l.setIfInBounds i true).getD j false = true → j = i ∨ l.getD j false = true := by
      intro j hj
      by_cases hji : j = i
      · exact .inl hji
      · right; simpa [Array.getElem?_setIfInBounds, Ne.symm hji] using hj
    have hclosed' : ∀ j p, ops[j]? = some p → (l.setIfInBounds i true).getD j false = true → ∀ e ∈ p.after, Region.binds .any e = true → (l.setIfInBounds i true).getD e.on false = true := by
      intro j p hp hj e he hb
      have hmono : ∀ k, l.getD k false = true → (l.setIfInBounds i true).getD k false = true := by
        intro k hk
        by_cases hki : k = i
        · subst hki; rw [hun'] at hk; cases hk
        · simpa [Array.getElem?_setIfInBounds, Ne.symm hki] using hk
      rcases hset j hj with rfl | hlj
      · rw [ho] at hp; injection hp with hp; subst hp
        exact hmono _ (hall e he hb)
      · exact hmono _ (hg.closed j p hp hlj e he hb)
    have hjun : ∀ j, j < ops.size → (l.setIfInBounds i true).getD j false = false → j ≠ i ∧ l.getD j false = false ∧ (j, i) ∉ late := by
      intro j hj hlj
      have hji : j ≠ i := by
        rintro rfl
        have : j < l.size := by omega
        simp [this] at hlj
      have hlj' : l.getD j false = false := by simpa [Array.getElem?_setIfInBounds, Ne.symm hji] using hlj
      refine ⟨hji, hlj', fun hmem => ?_⟩
      have hb := List.all_eq_true.1 hlate (j, i) hmem
      have := behind_not hlj ops.toList [] [] rfl (fun j o ho => hclosed' j o (by simpa using ho)) (by simp) i hb
      have hi2 : i < l.size := by omega
      simp [hi2] at this
    have hnext : ∀ v w', I w' → R i w w' → D i (if o.dst = none then undef else v) w' → RelyN ops a0 D I N (l.setIfInBounds i true) (a.put o.dst v) w' := by
      intro v w' hI hR hD
      refine ⟨hI, defers_put.trans hg.defs, size_put.trans hg.size, ?_, ?_, hclosed', fun j hj hlj => hN i j _ _ (hjun j hj hlj).1 (hjun j hj hlj).2.2 (hg.nyet j hj (hjun j hj hlj).2.1) hR⟩
      · intro t hno
        have hne : o.dst ≠ some t := hno i o ho (by have : i < l.size := by omega
                                                    simp [this])
        have h2 : (a.put o.dst v).eval (.tmp t) = a.eval (.tmp t) := by
          cases hd : o.dst with
          | none => rfl
          | some d => exact eval_put_ne (fun e => hne (by rw [hd, e]))
        rw [h2]
        refine hg.off t fun j p hp hlj => hno j p hp ?_
        by_cases hji : j = i
        · subst hji; have : j < l.size := by omega
          simp [this]
        · simpa [Array.getElem?_setIfInBounds, Ne.symm hji] using hlj
      · intro j hj
        by_cases hji : j = i
        · subst hji; rw [hself]; exact hD
        · have hlj := (hset j hj).resolve_left hji
          rw [hsame v j hji hlj]
          refine hst i j _ _ _ hji (fun hmem => ?_) (hg.on j hlj) hR
          have hb := List.all_eq_true.1 hlate (i, j) hmem
          rw [behind_not hun' ops.toList [] [] rfl (fun j o ho => hg.closed j o (by simpa using ho)) (by simp) j hb] at hlj
          cases hlj
    have hskip : D i undef w → RelyN ops a0 D I N (l.setIfInBounds i true) (a.put o.dst undef) w := by
      intro hD
      refine ⟨hg.inv, defers_put.trans hg.defs, size_put.trans hg.size, ?_, ?_, hclosed', fun j hj hlj => hg.nyet j hj (hjun j hj hlj).2.1⟩
      · intro t hno
        have hne : o.dst ≠ some t := hno i o ho (by have : i < l.size := by omega
                                                    simp [this])
        have h2 : (a.put o.dst undef).eval (.tmp t) = a.eval (.tmp t) := by
          cases hd : o.dst with
          | none => rfl
          | some d => exact eval_put_ne (fun e => hne (by rw [hd, e]))
        rw [h2]
        refine hg.off t fun j p hp hlj => hno j p hp ?_
        by_cases hji : j = i
        · subst hji; have : j < l.size := by omega
          simp [this]
        · simpa [Array.getElem?_setIfInBounds, Ne.symm hji] using hlj
      · intro j hj
        by_cases hji : j = i
        · subst hji; rw [hself]; simpa using hD
        · have hlj := (hset j hj).resolve_left hji
          rw [hsame undef j hji hlj]
          exact hg.on j hlj
    unfold wpOp
    simp only [ho]
    split
    · rename_i hw
      rw [if_pos hw] at h1
      refine .inl (Oper.wp_mono ?_ h1)
      rintro a' w' ⟨v, rfl, hI, hR, hD⟩
      exact hnext v w' hI hR hD
    · rename_i hw
      rw [if_neg hw] at h1
      exact hskip h1
  · intro l a w hls hr hg
    have hall : ∀ j, j < ops.size → l.getD j false = true := by
      intro j
      induction j using Nat.strongRecOn with
      | ind j ih =>
        intro hj
        cases hlj : l.getD j false with
        | true => rfl
        | false =>
          exfalso
          have : j ∈ Region.ready .any ops l := mem_ready.2 ⟨(by
            have : j < l.size := by omega
            simpa [this] using hlj), ops[j], by simp [hj], fun e he hb => by
            have hlt := tidy_edge ht (i := j) (o := ops[j]) (by simp [hj]) e he hb
            exact ih e.on hlt (by omega)⟩
          rw [hr] at this
          cases this
    have := hend (fun i => leftAt ops a i) w hg.inv (fun i hi => hg.on i (hall i hi))
    have e : putAll (fun i => leftAt ops a i) 0 ops.toList a0 = a := by
      have hsz := putAll_size (fun i => leftAt ops a i) ops.toList 0 a0
      have key : ∀ t, t < a0.tmps.size → (putAll (fun i => leftAt ops a i) 0 ops.toList a0).eval (.tmp t) = a.eval (.tmp t) := by
        intro t htl
        by_cases hex : ∃ (i : Nat) (o : Oper), ops[i]? = some o ∧ o.dst = some t
        · obtain ⟨i, o, ho, hd⟩ := hex
          rw [putAll_on _ t ops.toList 0 a0 i o (by simpa using ho) hd (fun j p hp hpd => tidy_dst ht (by simpa using hp) ho hpd hd) htl, Nat.zero_add]
          simp [leftAt, ho, hd]
        · rw [putAll_off _ t ops.toList 0 a0 (fun o ho hd => by
            obtain ⟨i, hi⟩ := List.mem_iff_getElem?.1 ho
            exact hex ⟨i, o, by simpa using hi, hd⟩)]
          exact (hg.off t fun j p hp _ hpd => hex ⟨j, p, hp, hpd⟩).symm
      generalize putAll (fun i => leftAt ops a i) 0 ops.toList a0 = b at *
      obtain ⟨bt, bd⟩ := b
      obtain ⟨at_, ad⟩ := a
      have h1 : bt = at_ := by
        apply Array.ext
        · exact hsz.1.trans hg.size.symm
        · intro t h1 h2
          have h3 := key t (by rw [← hsz.1]; exact h1)
          simpa [Act.eval, h1, h2] using h3
      have h2 : bd = ad := hsz.2.trans hg.defs.symm
      rw [h1, h2]
    rwa [e] at this
  · exact ⟨h0, rfl, rfl, fun _ _ => rfl, fun j hj => by
      exfalso
      rw [Array.getD_eq_getD_getElem?, Array.getElem?_replicate] at hj
      split at hj <;> simp at hj, fun j o ho hj => by
      exfalso
      rw [Array.getD_eq_getD_getElem?, Array.getElem?_replicate] at hj
      split at hj <;> simp at hj, fun j _ _ => hN0 j⟩
end
end Go.Proofs.YtglafpdealjlnaaGreat
namespace Go.Proofs.YtglafpdealjlnaaGreat
open Go.RowKit
set_option linter.unusedSimpArgs false
set_option linter.unusedVariables false
set_option linter.unusedSectionVars false

def HasM {κ : Type} (enc : κ → Value) (w : World) (g : Nat) (p : κ × Value) : Prop := ∃ m, HoldsM enc w g m ∧ p ∈ m
/-- Block g holds just this table, in whatever order. -/
def TabM {κ : Type} (enc : κ → Value) (w : World) (g : Nat) (tab : List (κ × Value)) : Prop := ∃ m, HoldsM enc w g m ∧ (∀ p ∈ m, p ∈ tab) ∧ ∀ p ∈ tab, p ∈ m
def lookV {κ : Type} [DecidableEq κ] (k : κ) : List (κ × Value) → Option Value
  | [] => none
  | p :: m => if k = p.1 then some p.2 else lookV k m

section
variable {κ : Type} [DecidableEq κ] {P : Program} {K E T : TypeId} {enc : κ → Value}
theorem HoldsM.upd {F : List Nat} {w w' : World} {g : Nat} {m : List (κ × Value)} (h : HoldsM enc w g m) (hu : Upd F w w') (hg : g ∉ F) : HoldsM enc w' g m := by
  obtain ⟨es, c, h1, h2⟩ := h
  have hlt : g < w.heap.size := by
    rcases Nat.lt_or_ge g w.heap.size with h | h
    · exact h
    · rw [Array.getElem?_eq_none h] at h1; cases h1
  exact ⟨es, c, (hu.block g hlt hg).trans h1, h2⟩
theorem TabM.upd {F : List Nat} {w w' : World} {g : Nat} {tab : List (κ × Value)} (h : TabM enc w g tab) (hu : Upd F w w') (hg : g ∉ F) : TabM enc w' g tab := by
  obtain ⟨m, h1, h2⟩ := h
  exact ⟨m, h1.upd hu hg, h2⟩
theorem HoldsM.inj (hinj : ∀ a b, enc a = enc b → a = b) {w : World} {g : Nat} {m m' : List (κ × Value)} (h : HoldsM enc w g m) (h' : HoldsM enc w g m') : m = m' := by
  obtain ⟨es, c, h1, h2, -⟩ := h
  obtain ⟨es', c', h1', h2', -⟩ := h'
  rw [h1] at h1'
  injection h1' with h1'
  injection h1' with h3 h4
  subst h3
  rw [h2] at h2'
  clear h1 h2 h4
  induction m generalizing m' with
  | nil => simpa using h2'
  | cons p m ih =>
    cases m' with
    | nil => simp at h2'
    | cons p' m' =>
      simp only [List.map_cons, List.cons.injEq, Prod.mk.injEq] at h2'
      rw [ih h2'.2]
      congr 1
      exact Prod.ext (hinj _ _ h2'.1.1) h2'.1.2
theorem lookIx_lookV (k : κ) : ∀ (m : List (κ × Value)) (i : Nat), (lookIx k m i).map (·.2) = lookV k m
  | [], _ => rfl
  | p :: m, i => by
    rw [lookIx, lookV]
    by_cases h : k = p.1
    · rw [if_pos h, if_pos h]; rfl
    · rw [if_neg h, if_neg h]; exact lookIx_lookV k m (i + 1)
theorem lookV_mem {k : κ} {v : Value} : ∀ {m : List (κ × Value)}, lookV k m = some v → (k, v) ∈ m
  | [], h => by cases h
  | p :: m, h => by
    rw [lookV] at h
    by_cases hk : k = p.1
    · rw [if_pos hk] at h
      injection h with h
      subst h
      rw [hk]; exact List.mem_cons_self
    · rw [if_neg hk] at h
      exact List.mem_cons_of_mem _ (lookV_mem h)
theorem lookV_none {k : κ} : ∀ {m : List (κ × Value)}, lookV k m = none → ∀ v, (k, v) ∉ m
  | [], _ => by simp
  | p :: m, h => by
    rw [lookV] at h
    by_cases hk : k = p.1
    · rw [if_pos hk] at h; cases h
    · rw [if_neg hk] at h
      intro v hv
      rcases List.mem_cons.1 hv with e | hv
      · exact hk (by rw [← e])
      · exact lookV_none h v hv
theorem lookV_same {m m' : List (κ × Value)} (hf : ∀ p ∈ m', ∀ q ∈ m', p.1 = q.1 → p.2 = q.2) (h1 : ∀ p ∈ m, p ∈ m') (h2 : ∀ p ∈ m', p ∈ m) (k : κ) : lookV k m = lookV k m' := by
  cases h : lookV k m with
  | none =>
    cases h' : lookV k m' with
    | none => rfl
    | some v => exact absurd (h2 _ (lookV_mem h')) (lookV_none h v)
  | some v =>
    cases h' : lookV k m' with
    | none => exact absurd (h1 _ (lookV_mem h)) (lookV_none h' v)
    | some v' => exact congrArg some (hf _ (h1 _ (lookV_mem h)) _ (lookV_mem h') rfl)
/-- A key is looked up in a table. -/
theorem TabM.look {w : World} {g : Nat} {tab : List (κ × Value)} (h : TabM enc w g tab) (hf : ∀ p ∈ tab, ∀ q ∈ tab, p.1 = q.1 → p.2 = q.2) (kl : KeyEnc κ P K enc) (hT : P.underlying T = some (.map K E)) {z : Value} (hz : (zeroValue E).run P w = .ok z w) (k : κ) :
    (Instr.lookup T (.map (some g)) (enc k) true).run P w = .ok (.tuple #[(lookV k tab).getD z, .bool (lookV k tab).isSome]) w ∧ (Instr.lookup T (.map (some g)) (enc k) false).run P w = .ok ((lookV k tab).getD z) w := by
  obtain ⟨m, hm, h1, h2⟩ := h
  have := hm.look kl hT hz k
  rw [lookIx_lookV, lookV_same hf h1 h2] at this
  have h3 : (lookIx k m 0).isSome = (lookV k tab).isSome := by
    rw [← lookV_same hf h1 h2 k, ← lookIx_lookV k m 0]; cases lookIx k m 0 <;> rfl
  rw [h3] at this
  exact this

/-! ### the region -/
variable {ops : Array Oper} {Q : Exit → Act → World → Prop} {a0 : Act} {w0 : World}
def LitM (enc : κ → Value) (tab : List (κ × Value)) (g : Nat) (w : World) : Prop := ∃ m, HoldsM enc w g m ∧ ∀ p ∈ m, p ∈ tab
def litD (enc : κ → Value) (tab : List (κ × Value)) (g : Nat) (i : Nat) (v : Value) (w : World) : Prop :=
  match i with
  | 0 => v = .map (some g) ∧ LitM enc tab g w
  | i + 1 => if 2 * tab.length ≤ i then v = .map (some g) else
      match tab[i / 2]? with
      | none => True
      | some p => if i % 2 = 0 then v = enc p.1 else HasM enc w g p
def litI (w0 w : World) : Prop := Upd [] w0 w ∧ (w.heap.size = w0.heap.size ∨ w.heap.size = w0.heap.size + 1)
def litN (w0 : World) (j : Nat) (w : World) : Prop := j = 0 → w.heap.size = w0.heap.size
def litR (enc : κ → Value) (tab : List (κ × Value)) (g : Nat) (i : Nat) (w w' : World) : Prop := (∀ p, HasM enc w g p → HasM enc w' g p) ∧ (i ≠ 0 → w'.heap.size = w.heap.size) ∧ (LitM enc tab g w → LitM enc tab g w')
abbrev LitStep (P : Program) (ops : Array Oper) (Q : Exit → Act → World → Prop) (a0 : Act) (enc : κ → Value) (tab : List (κ × Value)) (w0 : World) (i : Nat) (o : Oper) : Prop :=
  StepToN P ops Q a0 (litD enc tab w0.heap.size) (litI w0) (litN w0) (litR enc tab w0.heap.size) i o
theorem litD_keep {tab : List (κ × Value)} {g i j : Nat} {v : Value} {w w' : World} (h : litD enc tab g j v w) (hR : litR enc tab g i w w') : litD enc tab g j v w' := by
  match j, h with
  | 0, h => exact ⟨h.1, hR.2.2 h.2⟩
  | j + 1, h =>
    unfold litD at h ⊢
    simp only at h ⊢
    split
    · rename_i hj
      rw [if_pos hj] at h; exact h
    · rename_i hj
      rw [if_neg hj] at h
      cases ht : tab[j / 2]? with
      | none => trivial
      | some p =>
        rw [ht] at h
        simp only at h ⊢
        split
        · rename_i h2; rw [if_pos h2] at h; exact h
        · rename_i h2; rw [if_neg h2] at h; exact hR.1 p h
theorem lit_make {tab : List (κ × Value)} {o : Oper} (hg : o.guard = none) (hd : ∃ d, o.dst = some d) (h : ∀ (a : Act) (w : World), (execOp a.eval o).run P w = .ok (.value (.map (some w.heap.size))) (w.alloc (.map #[] 0))) : LitStep P ops Q a0 enc tab w0 0 o := by
  intro a w hI hN _ _
  rw [if_pos (by simp [Region.wanted, hg])]
  obtain ⟨d, hd⟩ := hd
  unfold Oper.wp
  rw [h]
  have hz := hN rfl
  have hm0 : HoldsM enc (w.alloc (.map #[] 0)) w0.heap.size [] := ⟨#[], 0, by rw [← hz]; exact heap_alloc_new w _, rfl, by simp, by simp⟩
  refine ⟨_, rfl, ⟨hI.1.alloc _, .inr (by simp [hz])⟩, ⟨fun p hp => ?_, fun h => absurd rfl h, fun _ => ⟨[], hm0, by simp⟩⟩, ?_⟩
  · obtain ⟨m, hm, hp⟩ := hp
    exact ⟨m, hm.upd ((Upd.refl [] w).alloc _) (by simp), hp⟩
  · rw [if_neg (by rw [hd]; simp)]
    exact ⟨by show Value.map (some w.heap.size) = _; rw [hz], [], hm0, by simp⟩
theorem lit_pure {tab : List (κ × Value)} {i : Nat} (hi : i ≠ 0) {o : Oper} (x : Value) (hg : o.guard = none) (hd : ∃ d, o.dst = some d) (hx : ∀ w, litD enc tab w0.heap.size i x w)
    (h : ∀ (a : Act) (w : World), (∀ e ∈ o.after, Region.binds .any e = true → litD enc tab w0.heap.size e.on (leftAt ops a e.on) w) → (execOp a.eval o).run P w = .ok (.value x) w) : LitStep P ops Q a0 enc tab w0 i o := by
  intro a w hI hN hF hD
  rw [if_pos (by simp [Region.wanted, hg])]
  obtain ⟨d, hd⟩ := hd
  unfold Oper.wp
  rw [h a w hD]
  exact ⟨x, rfl, hI, ⟨fun _ hp => hp, fun _ => rfl, fun h => h⟩, by rw [if_neg (by rw [hd]; simp)]; exact hx w⟩
theorem lit_put {tab : List (κ × Value)} (hinj : ∀ a b, enc a = enc b → a = b) (hf : ∀ p ∈ tab, ∀ q ∈ tab, p.1 = q.1 → p.2 = q.2) (kl : KeyEnc κ P K enc) (hT : P.underlying T = some (.map K E)) (j : Nat) {o : Oper} (k : κ) (v : Value) (hj : tab[j]? = some (k, v)) (hg : o.guard = none) (hd : o.dst = none)
    (h0 : ∃ e ∈ o.after, Region.binds .any e = true ∧ e.on = 0)
    (h : ∀ (a : Act) (w : World), (∀ e ∈ o.after, Region.binds .any e = true → litD enc tab w0.heap.size e.on (leftAt ops a e.on) w) → execOp a.eval o = (do Instr.mapUpdate T (.map (some w0.heap.size)) (enc k) v; pure .skip)) : LitStep P ops Q a0 enc tab w0 (2 * j + 2) o := by
  intro a w hI hN hF hD
  rw [if_pos (by simp [Region.wanted, hg])]
  have hI2 : LitM enc tab w0.heap.size w := by
    obtain ⟨e, he, hb, h0⟩ := h0
    have := hD e he hb
    rw [h0] at this
    exact this.2
  obtain ⟨m, hm, hsub⟩ := hI2
  have hmem : (k, v) ∈ tab := List.mem_of_getElem? hj
  obtain ⟨w', m', hrun, hm', hor, hkv, hu, hsz⟩ := hm.put kl hT k v (fun p hp hk => hf p (hsub p hp) (k, v) hmem hk)
  have hsub' : ∀ p ∈ m', p ∈ tab := by
    intro p hp
    rcases hor with rfl | rfl
    · exact hsub p hp
    · rcases List.mem_append.1 hp with hp | hp
      · exact hsub p hp
      · simp at hp; subst hp; exact hmem
  unfold Oper.wp
  rw [h a w hD]
  simp only [Sem.run_bind, hrun, Result.andThen_ok, Sem.run_pure, Oper.upon]
  refine ⟨undef, rfl, ⟨hI.1.trans' hu (fun x hx => .inr (by simp at hx; omega)), by rw [hsz]; exact hI.2⟩, ⟨fun p hp => ?_, fun _ => hsz, fun _ => ⟨m', hm', hsub'⟩⟩, ?_⟩
  · obtain ⟨m1, hm1, hp⟩ := hp
    rw [HoldsM.inj hinj hm1 hm] at hp
    refine ⟨m', hm', ?_⟩
    rcases hor with rfl | rfl
    · exact hp
    · exact List.mem_append_left _ hp
  · have hlt : j < tab.length := (List.getElem?_eq_some_iff.1 hj).1
    rw [if_pos hd]
    show (if 2 * tab.length ≤ 2 * j + 1 then _ else _)
    rw [if_neg (by omega), show (2 * j + 1) / 2 = j by omega, hj]
    simp only
    rw [if_neg (by omega)]
    exact ⟨m', hm', hkv⟩
theorem lit_end {tab : List (κ × Value)} (hinj : ∀ a b, enc a = enc b → a = b) {w : World} {vals : Nat → Value} (n : Nat) (hn : 2 * tab.length < n) (h : ∀ i, i < n → litD enc tab w0.heap.size i (vals i) w) :
    TabM enc w w0.heap.size tab ∧ ∀ i, i < n → 2 * tab.length < i → vals i = .map (some w0.heap.size) := by
  obtain ⟨-, m, hm, hsub⟩ := h 0 (by omega)
  refine ⟨⟨m, hm, hsub, fun p hp => ?_⟩, fun i hi h2 => ?_⟩
  · obtain ⟨j, hj⟩ := List.mem_iff_getElem?.1 hp
    have hlt : j < tab.length := (List.getElem?_eq_some_iff.1 hj).1
    have h3 : (if 2 * tab.length ≤ 2 * j + 1 then _ else _) := h (2 * j + 2) (by omega)
    rw [if_neg (by omega), show (2 * j + 1) / 2 = j by omega, hj] at h3
    simp only at h3
    rw [if_neg (by omega)] at h3
    obtain ⟨m1, hm1, hp1⟩ := h3
    rwa [HoldsM.inj hinj hm1 hm] at hp1
  · match i, hi, h2 with
    | i + 1, hi, h2 =>
      have h3 : (if 2 * tab.length ≤ i then _ else _) := h (i + 1) hi
      rwa [if_pos (by omega)] at h3
/-- A map literal's region: the steps, and what is left. -/
theorem wp_region_lit {id : Nat} {tab : List (κ × Value)} (hinj : ∀ a b, enc a = enc b → a = b)
    (hm : P.follows .mixedOrders = true) (ht : tidy ops = true) (hin : (ops.all fun o => match o.dst with | some d => decide (d < a0.tmps.size) | none => true) = true)
    (hn : 2 * tab.length < ops.size)
    (hs : StepsN P ops Q a0 (litD enc tab w0.drew.heap.size) (litI w0.drew) (litN w0.drew) (litR enc tab w0.drew.heap.size) 0 ops.toList)
    (hend : ∀ vals w, Upd [] w0 w → TabM enc w w0.heap.size tab → (∀ i, i < ops.size → 2 * tab.length < i → vals i = .map (some w0.heap.size)) → Q .normal (putAll vals 0 ops.toList a0) w) : (Code.region id ops true).wp P Q a0 w0 := by
  refine wp_region_relyN (litD enc tab w0.drew.heap.size) (litI w0.drew) (litN w0.drew) (litR enc tab w0.drew.heap.size) hm ht hin [] ?_ ?_ ?_ ?_ ⟨Upd.refl _ _, .inl rfl⟩ hs ?_
  · rfl
  · intro i j v w w' _ _ h hR
    exact litD_keep h hR
  · intro i j w w' hne _ h hR hj
    subst hj
    rw [hR.2.1 hne.symm]; exact h rfl
  · intro j _; rfl
  · intro vals w hI hD
    have := lit_end (w0 := w0.drew) hinj ops.size hn hD
    exact hend vals w hI.1.undrew this.1 this.2
end
end Go.Proofs.YtglafpdealjlnaaGreat
