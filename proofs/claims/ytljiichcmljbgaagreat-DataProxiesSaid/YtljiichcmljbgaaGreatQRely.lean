/- Regions that draw their order, by what each operation leaves and what the others keep: each operation is walked once. No program in sight. -/
import Derived.WalkKit
import Derived.OrdersHeld
namespace Go.Proofs.YtljiichcmljbgaaGreat
open Go.RowKit

section
variable {P : Program} {ops : Array Oper} {Q : Exit → Act → World → Prop}

/-- What is held between two operations of a region: which have come up, the frame, the world. -/
theorem wpAny_held {md : Region.Mode} (G : Array Bool → Act → World → Prop)
    (hstep : ∀ listed a w i, listed.size = ops.size → i ∈ Region.ready md ops listed → G listed a w → wpOp P ops Q i (G (listed.setIfInBounds i true)) a w)
    (hend : ∀ listed a w, listed.size = ops.size → Region.ready md ops listed = [] → G listed a w → Q .normal a w) :
    ∀ (fuel : Nat) (listed : Array Bool) (a : Act) (w : World), listed.size = ops.size → (listed.toList.count false ≤ fuel) → G listed a w → wpAny P md ops Q fuel listed a w := by
  intro fuel
  induction fuel with
  | zero =>
    intro listed a w hs hc hg
    have : Region.ready md ops listed = [] := by
      unfold Region.ready
      rw [List.filter_eq_nil_iff]
      intro i hi
      have hi : i < listed.size := by rw [hs]; simpa using hi
      have h0 : listed.toList.count false = 0 := by omega
      rw [List.count_eq_zero] at h0
      have : listed[i] = true := by
        cases h : listed[i] with
        | true => rfl
        | false => exact absurd (by rw [← h]; exact Array.getElem_mem_toList hi) h0
      simp [hi, this]
    exact ⟨this, hend _ _ _ hs this hg⟩
  | succ fuel ih =>
    intro listed a w hs hc hg
    refine ⟨fun h => hend _ _ _ hs h hg, fun i hi => ?_⟩
    refine wpOp_mono (fun a' w' h => ih _ a' w' (by simpa using hs) ?_ h) (hstep _ _ _ i hs hi hg)
    have h1 := (mem_ready.1 hi).1
    have hi' : i < listed.size := by
      rcases Nat.lt_or_ge i listed.size with h' | h'
      · exact h'
      · simp [Array.getElem?_eq_none h'] at h1
    have h2 : listed[i] = false := by simpa [hi'] using h1
    have : (listed.setIfInBounds i true).toList.count false + 1 = listed.toList.count false := by
      rw [Array.toList_setIfInBounds, List.count_set (by simpa using hi')]
      have : listed.toList[i]'(by simpa using hi') = false := by simpa using h2
      have h3 : 0 < listed.toList.count false := List.count_pos_iff.2 (by rw [← h2]; exact Array.getElem_mem_toList hi')
      simp only [this]
      simp
      have h4 : listed.toList.count false = Array.count false listed := by simp
      omega
    have e : List.count false (listed.setIfInBounds i true).toList + 1 ≤ fuel + 1 := by rw [this]; exact hc
    exact Nat.le_of_succ_le_succ e

/-- The value that operation j left in its temporary. -/
def leftAt (ops : Array Oper) (a : Act) (j : Nat) : Value :=
  match (ops[j]?).bind (·.dst) with
  | some d => a.eval (.tmp d)
  | none => undef
/-- Every edge leads backwards; no temporary is written twice. -/
def tidy (ops : Array Oper) : Bool :=
  (List.range ops.size).all fun i => match ops[i]? with
    | none => true
    | some o => (o.after.all fun e => !Region.binds .any e || e.on < i) &&
      (match o.dst with
       | none => true
       | some d => (List.range i).all fun j => match ops[j]? with | none => true | some p => p.dst != some d)
/-- Which operations can't have come up before operation i has. -/
def behind (i : Nat) : List Oper → List Bool → List Bool
  | [], acc => acc
  | o :: r, acc => behind i r (acc ++ [o.after.toList.any fun e => Region.binds .any e && (e.on == i || acc.getD e.on false)])
/-- Slot t is not written before operation i comes up. -/
def freeAt (ops : Array Oper) (i t : Nat) : Bool :=
  (List.range ops.size).all fun j => match ops[j]? with
    | none => true
    | some o => o.dst != some t || j == i || (behind i ops.toList []).getD j false

theorem tidy_edge (h : tidy ops = true) {i : Nat} {o : Oper} (ho : ops[i]? = some o) : ∀ e ∈ o.after, Region.binds .any e = true → e.on < i := by
  intro e he hb
  have hi : i < ops.size := (Array.getElem?_eq_some_iff.1 ho).1
  have := List.all_eq_true.1 h i (by simpa using hi)
  simp only [ho, Bool.and_eq_true, Array.all_eq_true_iff_forall_mem] at this
  have := this.1 e he
  simpa [hb] using this
theorem tidy_dst (h : tidy ops = true) {i j : Nat} {o p : Oper} {d : Nat} (ho : ops[i]? = some o) (hp : ops[j]? = some p) (hd : o.dst = some d) (hd' : p.dst = some d) : i = j := by
  have key : ∀ (i j : Nat) (o p : Oper), ops[i]? = some o → ops[j]? = some p → o.dst = some d → p.dst = some d → ¬ j < i := by
    intro i j o p ho hp hd hd' hlt
    have hi : i < ops.size := (Array.getElem?_eq_some_iff.1 ho).1
    have := List.all_eq_true.1 h i (by simpa using hi)
    simp only [ho, hd, Bool.and_eq_true] at this
    have := List.all_eq_true.1 this.2 j (by simpa using hlt)
    simp [hp, hd'] at this
  have h1 := key i j o p ho hp hd hd'
  have h2 := key j i p o hp ho hd' hd
  omega

structure Rely (ops : Array Oper) (a0 : Act) (D : Nat → Value → World → Prop) (I : World → Prop) (l : Array Bool) (a : Act) (w : World) : Prop where
  inv : I w
  defs : a.defers = a0.defers
  size : a.tmps.size = a0.tmps.size
  off : ∀ t, (∀ j o, ops[j]? = some o → l.getD j false = true → o.dst ≠ some t) → a.eval (.tmp t) = a0.eval (.tmp t)
  on : ∀ j, l.getD j false = true → D j (leftAt ops a j) w
  closed : ∀ j o, ops[j]? = some o → l.getD j false = true → ∀ e ∈ o.after, Region.binds .any e = true → l.getD e.on false = true

theorem behind_not {l : Array Bool} {i : Nat} (hl : l.getD i false = false) : ∀ (r pre : List Oper) (acc : List Bool), acc.length = pre.length →
    (∀ j o, (pre ++ r)[j]? = some o → l.getD j false = true → ∀ e ∈ o.after, Region.binds .any e = true → l.getD e.on false = true) →
    (∀ j, acc.getD j false = true → l.getD j false = false) → ∀ j, (behind i r acc).getD j false = true → l.getD j false = false
  | [], _, _, _, _, ha, j, hb => ha j hb
  | o :: r, pre, acc, hlen, hc, ha, j, hb => by
    refine behind_not hl r (pre ++ [o]) _ (by simp [hlen]) (by simpa using hc) ?_ j hb
    intro k hk
    by_cases hlt : k < acc.length
    · exact ha k (by rw [← hk]; simp [List.getElem?_append_left hlt])
    · by_cases hke : k = acc.length
      · subst hke
        simp only [List.getD_eq_getElem?_getD, List.getElem?_concat_length, Option.getD_some, List.any_eq_true] at hk
        obtain ⟨e, he, hk⟩ := hk
        simp only [Bool.and_eq_true, Bool.or_eq_true, beq_iff_eq] at hk
        obtain ⟨hbi, hk⟩ := hk
        cases hlj : l.getD acc.length false with
        | false => rfl
        | true =>
          have h1 := hc acc.length o (by rw [hlen]; simp) hlj e (by simpa using he) hbi
          rcases hk with hk | hk
          · rw [hk, hl] at h1; cases h1
          · rw [ha _ (by simpa using hk)] at h1; cases h1
      · rw [List.getD_eq_getElem?_getD, List.getElem?_eq_none (by simp; omega)] at hk
        cases hk

/-- What one operation must do. -/
def StepTo (P : Program) (ops : Array Oper) (Q : Exit → Act → World → Prop) (a0 : Act) (D : Nat → Value → World → Prop) (I : World → Prop) (R : Nat → World → World → Prop) (i : Nat) (o : Oper) : Prop :=
  ∀ a w, I w → (∀ t, freeAt ops i t = true → a.eval (.tmp t) = a0.eval (.tmp t)) → (∀ e ∈ o.after, Region.binds .any e = true → D e.on (leftAt ops a e.on) w) →
    if Region.wanted o (yielded ops a.tmps) = true then o.wp P a w (fun a' w' => ∃ v, a' = a.put o.dst v ∧ I w' ∧ R i w w' ∧ D i (if o.dst = none then undef else v) w') Q else D i undef w
def Steps (P : Program) (ops : Array Oper) (Q : Exit → Act → World → Prop) (a0 : Act) (D : Nat → Value → World → Prop) (I : World → Prop) (R : Nat → World → World → Prop) : Nat → List Oper → Prop
  | _, [] => True
  | i, o :: r => StepTo P ops Q a0 D I R i o ∧ Steps P ops Q a0 D I R (i + 1) r
theorem Steps.get {a0 : Act} {D : Nat → Value → World → Prop} {I : World → Prop} {R : Nat → World → World → Prop} : ∀ (l : List Oper) (n : Nat), Steps P ops Q a0 D I R n l → ∀ i o, l[i]? = some o → StepTo P ops Q a0 D I R (n + i) o
  | [], _, _, _, _, h => by simp at h
  | p :: r, n, hs, 0, o, h => by simp at h; subst h; exact hs.1
  | p :: r, n, hs, i + 1, o, h => by
    have := Steps.get r (n + 1) hs.2 i o (by simpa using h)
    rwa [show n + (i + 1) = n + 1 + i by omega]

theorem eval_put_self {a : Act} {d : Nat} {v : Value} (h : d < a.tmps.size) : (a.put (some d) v).eval (.tmp d) = v := by
  simp [Act.put, Act.eval, h]
theorem eval_put_ne {a : Act} {d t : Nat} {v : Value} (h : d ≠ t) : (a.put (some d) v).eval (.tmp t) = a.eval (.tmp t) := by
  simp [Act.put, Act.eval, h]
theorem size_put {a : Act} {d : Option Nat} {v : Value} : (a.put d v).tmps.size = a.tmps.size := by
  cases d <;> simp [Act.put]
theorem defers_put {a : Act} {d : Option Nat} {v : Value} : (a.put d v).defers = a.defers := by
  cases d <;> simp [Act.put]

/-- All the values put. -/
def putAll (vals : Nat → Value) : Nat → List Oper → Act → Act
  | _, [], a => a
  | i, o :: r, a => putAll vals (i + 1) r (a.put o.dst (vals i))
theorem putAll_size (vals : Nat → Value) : ∀ (l : List Oper) (n : Nat) (a : Act), (putAll vals n l a).tmps.size = a.tmps.size ∧ (putAll vals n l a).defers = a.defers
  | [], _, _ => ⟨rfl, rfl⟩
  | o :: r, n, a => by
    have := putAll_size vals r (n + 1) (a.put o.dst (vals n))
    rw [putAll]
    exact ⟨this.1.trans size_put, this.2.trans defers_put⟩
theorem putAll_off (vals : Nat → Value) (t : Nat) : ∀ (l : List Oper) (n : Nat) (a : Act), (∀ o ∈ l, o.dst ≠ some t) → (putAll vals n l a).eval (.tmp t) = a.eval (.tmp t)
  | [], _, _, _ => rfl
  | o :: r, n, a, h => by
    rw [putAll, putAll_off vals t r (n + 1) _ (fun p hp => h p (List.mem_cons_of_mem _ hp))]
    cases hd : o.dst with
    | none => rfl
    | some d => exact eval_put_ne (fun e => h o (by simp) (by rw [hd, e]))
theorem putAll_on (vals : Nat → Value) (t : Nat) : ∀ (l : List Oper) (n : Nat) (a : Act) (i : Nat) (o : Oper), l[i]? = some o → o.dst = some t → (∀ j p, l[j]? = some p → p.dst = some t → j = i) → t < a.tmps.size →
    (putAll vals n l a).eval (.tmp t) = vals (n + i)
  | [], _, _, _, _, h, _, _, _ => by simp at h
  | p :: r, n, a, 0, o, h, hd, hu, ht => by
    simp at h; subst h
    rw [putAll, putAll_off vals t r (n + 1) _ (fun q hq hqd => by
      obtain ⟨k, hk⟩ := List.mem_iff_getElem?.1 hq
      have := hu (k + 1) q (by simpa using hk) hqd
      omega), hd]
    exact eval_put_self ht
  | p :: r, n, a, i + 1, o, h, hd, hu, ht => by
    rw [putAll, putAll_on vals t r (n + 1) _ i o (by simpa using h) hd (fun j q hq hqd => by have := hu (j + 1) q (by simpa using hq) hqd; omega) (by rw [size_put]; exact ht)]
    congr 1; omega

theorem wp_region_rely {id : Nat} {a0 : Act} {w0 : World} (D : Nat → Value → World → Prop) (I : World → Prop) (R : Nat → World → World → Prop)
    (hm : P.follows .mixedOrders = true) (ht : tidy ops = true) (hin : (ops.all fun o => match o.dst with | some d => decide (d < a0.tmps.size) | none => true) = true)
    (late : List (Nat × Nat)) (hlate : (late.all fun p => (behind p.1 ops.toList []).getD p.2 false) = true)
    (hst : ∀ i j v w w', j ≠ i → (i, j) ∉ late → D j v w → R i w w' → D j v w') (h0 : I w0.drew)
    (hs : Steps P ops Q a0 D I R 0 ops.toList)
    (hend : ∀ vals w, I w → (∀ i, i < ops.size → D i (vals i) w) → Q .normal (putAll vals 0 ops.toList a0) w) : (Code.region id ops true).wp P Q a0 w0 := by
  refine wp_region_any hm (wpAny_held (Rely ops a0 D I) ?_ ?_ ops.size _ a0 _ (by simp) (by simp) ?_)
  · intro l a w i hls hi hg
    obtain ⟨hun, o, ho, hall⟩ := mem_ready.1 hi
    have hisz : i < ops.size := (Array.getElem?_eq_some_iff.1 ho).1
    have hun' : l.getD i false = false := by
      have : i < l.size := by omega
      simpa [this] using hun
    have hstep : StepTo P ops Q a0 D I R i o := by
      have := Steps.get (P := P) (Q := Q) ops.toList 0 hs i o (by simpa using ho)
      rwa [Nat.zero_add] at this
    have h1 := hstep a w hg.inv (fun t hf => hg.off t fun j p hp hlj hd => by
      have hj : j < ops.size := (Array.getElem?_eq_some_iff.1 hp).1
      have := List.all_eq_true.1 hf j (by simpa using hj)
      simp only [hp, hd, Bool.or_eq_true, beq_iff_eq, bne_self_eq_false, Bool.false_eq_true, false_or] at this
      rcases this with rfl | hb
      · rw [hun'] at hlj; cases hlj
      · rw [behind_not hun' ops.toList [] [] rfl (fun j o ho => hg.closed j o (by simpa using ho)) (by simp) j (by simpa using hb)] at hlj; cases hlj)
      (fun e he hb => hg.on e.on (hall e he hb))
    have hsame : ∀ v j, j ≠ i → l.getD j false = true → leftAt ops (a.put o.dst v) j = leftAt ops a j := by
      intro v j hji hlj
      unfold leftAt
      cases hp : ops[j]? with
      | none => rfl
      | some p =>
        cases hd : p.dst with
        | none => simp [hd]
        | some d =>
          simp only [Option.bind_some, hd]
          cases hd' : o.dst with
          | none => rfl
          | some d' => exact eval_put_ne (fun e => hji (tidy_dst ht hp ho hd (by rw [hd', e])))
    have hself : ∀ v, leftAt ops (a.put o.dst v) i = if o.dst = none then undef else v := by
      intro v
      unfold leftAt
      simp only [ho, Option.bind_some]
      cases hd : o.dst with
      | none => simp
      | some d =>
        have := (Array.all_eq_true_iff_forall_mem.1 hin) o (Array.mem_of_getElem? ho)
        simp only [hd, decide_eq_true_eq] at this
        simp only [reduceCtorEq, if_false]
        exact eval_put_self (by rw [hg.size]; exact this)
    have hset : ∀ j, (l.setIfInBounds i true).getD j false = true → j = i ∨ l.getD j false = true := by
      intro j hj
      by_cases hji : j = i
      · exact .inl hji
      · right; simpa [Array.getElem?_setIfInBounds, Ne.symm hji] using hj
    have hnext : ∀ v w', I w' → R i w w' → D i (if o.dst = none then undef else v) w' → Rely ops a0 D I (l.setIfInBounds i true) (a.put o.dst v) w' := by
      intro v w' hI hR hD
      refine ⟨hI, defers_put.trans hg.defs, size_put.trans hg.size, ?_, ?_, ?_⟩
      · intro t hno
        have hne : o.dst ≠ some t := hno i o ho (by have : i < l.size := by omega
                                                    simp [this])
        have h2 : (a.put o.dst v).eval (.tmp t) = a.eval (.tmp t) := by
          cases hd : o.dst with
          | none => rfl
          | some d => exact eval_put_ne (fun e => hne (by rw [hd, e]))
        rw [h2]
        refine hg.off t fun j p hp hlj => hno j p hp ?_
        by_cases hji : j = i
        · subst hji; have : j < l.size := by omega
          simp [this]
        · simpa [Array.getElem?_setIfInBounds, Ne.symm hji] using hlj
      · intro j hj
        by_cases hji : j = i
        · subst hji; rw [hself]; exact hD
        · have hlj := (hset j hj).resolve_left hji
          rw [hsame v j hji hlj]
          refine hst i j _ _ _ hji (fun hmem => ?_) (hg.on j hlj) hR
          have hb := List.all_eq_true.1 hlate (i, j) hmem
          rw [behind_not hun' ops.toList [] [] rfl (fun j o ho => hg.closed j o (by simpa using ho)) (by simp) j hb] at hlj
          cases hlj
      · intro j p hp hj e he hb
        have hmono : ∀ k, l.getD k false = true → (l.setIfInBounds i true).getD k false = true := by
          intro k hk
          by_cases hki : k = i
          · subst hki; rw [hun'] at hk; cases hk
          · simpa [Array.getElem?_setIfInBounds, Ne.symm hki] using hk
        rcases hset j hj with rfl | hlj
        · rw [ho] at hp; injection hp with hp; subst hp
          exact hmono _ (hall e he hb)
        · exact hmono _ (hg.closed j p hp hlj e he hb)
    have hskip : D i undef w → Rely ops a0 D I (l.setIfInBounds i true) (a.put o.dst undef) w := by
      intro hD
      refine ⟨hg.inv, defers_put.trans hg.defs, size_put.trans hg.size, ?_, ?_, ?_⟩
      · intro t hno
        have hne : o.dst ≠ some t := hno i o ho (by have : i < l.size := by omega
                                                    simp [this])
        have h2 : (a.put o.dst undef).eval (.tmp t) = a.eval (.tmp t) := by
          cases hd : o.dst with
          | none => rfl
          | some d => exact eval_put_ne (fun e => hne (by rw [hd, e]))
        rw [h2]
        refine hg.off t fun j p hp hlj => hno j p hp ?_
        by_cases hji : j = i
        · subst hji; have : j < l.size := by omega
          simp [this]
        · simpa [Array.getElem?_setIfInBounds, Ne.symm hji] using hlj
      · intro j hj
        by_cases hji : j = i
        · subst hji; rw [hself]; simpa using hD
        · have hlj := (hset j hj).resolve_left hji
          rw [hsame undef j hji hlj]
          exact hg.on j hlj
      · intro j p hp hj e he hb
        have hmono : ∀ k, l.getD k false = true → (l.setIfInBounds i true).getD k false = true := by
          intro k hk
          by_cases hki : k = i
          · subst hki; rw [hun'] at hk; cases hk
          · simpa [Array.getElem?_setIfInBounds, Ne.symm hki] using hk
        rcases hset j hj with rfl | hlj
        · rw [ho] at hp; injection hp with hp; subst hp
          exact hmono _ (hall e he hb)
        · exact hmono _ (hg.closed j p hp hlj e he hb)
    unfold wpOp
    simp only [ho]
    split
    · rename_i hw
      rw [if_pos hw] at h1
      refine .inl (Oper.wp_mono ?_ h1)
      rintro a' w' ⟨v, rfl, hI, hR, hD⟩
      exact hnext v w' hI hR hD
    · rename_i hw
      rw [if_neg hw] at h1
      exact hskip h1
  · intro l a w hls hr hg
    have hall : ∀ j, j < ops.size → l.getD j false = true := by
      intro j
      induction j using Nat.strongRecOn with
      | ind j ih =>
        intro hj
        cases hlj : l.getD j false with
        | true => rfl
        | false =>
          exfalso
          have : j ∈ Region.ready .any ops l := mem_ready.2 ⟨(by
            have : j < l.size := by omega
            simpa [this] using hlj), ops[j], by simp [hj], fun e he hb => by
            have hlt := tidy_edge ht (i := j) (o := ops[j]) (by simp [hj]) e he hb
            exact ih e.on hlt (by omega)⟩
          rw [hr] at this
          cases this
    have := hend (fun i => leftAt ops a i) w hg.inv (fun i hi => hg.on i (hall i hi))
    have e : putAll (fun i => leftAt ops a i) 0 ops.toList a0 = a := by
      have hsz := putAll_size (fun i => leftAt ops a i) ops.toList 0 a0
      have key : ∀ t, t < a0.tmps.size → (putAll (fun i => leftAt ops a i) 0 ops.toList a0).eval (.tmp t) = a.eval (.tmp t) := by
        intro t htl
        by_cases hex : ∃ (i : Nat) (o : Oper), ops[i]? = some o ∧ o.dst = some t
        · obtain ⟨i, o, ho, hd⟩ := hex
          rw [putAll_on _ t ops.toList 0 a0 i o (by simpa using ho) hd (fun j p hp hpd => tidy_dst ht (by simpa using hp) ho hpd hd) htl, Nat.zero_add]
          simp [leftAt, ho, hd]
        · rw [putAll_off _ t ops.toList 0 a0 (fun o ho hd => by
            obtain ⟨i, hi⟩ := List.mem_iff_getElem?.1 ho
            exact hex ⟨i, o, by simpa using hi, hd⟩)]
          exact (hg.off t fun j p hp _ hpd => hex ⟨j, p, hp, hpd⟩).symm
      generalize putAll (fun i => leftAt ops a i) 0 ops.toList a0 = b at *
      obtain ⟨bt, bd⟩ := b
      obtain ⟨at_, ad⟩ := a
      have h1 : bt = at_ := by
        apply Array.ext
        · exact hsz.1.trans hg.size.symm
        · intro t h1 h2
          have h3 := key t (by rw [← hsz.1]; exact h1)
          simpa [Act.eval, h1, h2] using h3
      have h2 : bd = ad := hsz.2.trans hg.defs.symm
      rw [h1, h2]
    rwa [e] at this
  · exact ⟨h0, rfl, rfl, fun _ _ => rfl, fun j hj => by
      exfalso
      rw [Array.getD_eq_getD_getElem?, Array.getElem?_replicate] at hj
      split at hj <;> simp at hj, fun j o ho hj => by
      exfalso
      rw [Array.getD_eq_getD_getElem?, Array.getElem?_replicate] at hj
      split at hj <;> simp at hj⟩
end
end Go.Proofs.YtljiichcmljbgaaGreat
