/- Regions that draw their order, by what each operation leaves and what the others keep: each operation is walked once. No program in sight. Facts that the operations of a drawn region leave, each kept by all the others. No program in sight. The walks of slices.Equal, slices.IndexFunc at values (Avp), of avp.Same, avp.Find. The walks of avp.in, avp.Num. The walk of opts.Value. The walk of avp.Number. -/
import Derived.WalkKit
import Derived.OrdersHeld
import Derived.Test.YtglafpdealjlnaaGreatProg
import Derived.Test.YtglafpdealjlnaaGreatQLib
namespace Go.Proofs.YtglafpdealjlnaaGreat
open Go.RowKit

section
variable {P : Program} {ops : Array Oper} {Q : Exit → Act → World → Prop}

/-- What is held between two operations of a region: which have come up, the frame, the world. -/
theorem wpAny_held {md : Region.Mode} (G : Array Bool → Act → World → Prop)
    (hstep : ∀ listed a w i, listed.size = ops.size → i ∈ Region.ready md ops listed → G listed a w → wpOp P ops Q i (G (listed.setIfInBounds i true)) a w)
    (hend : ∀ listed a w, listed.size = ops.size → Region.ready md ops listed = [] → G listed a w → Q .normal a w) :
    ∀ (fuel : Nat) (listed : Array Bool) (a : Act) (w : World), listed.size = ops.size → (listed.toList.count false ≤ fuel) → G listed a w → wpAny P md ops Q fuel listed a w := by
  intro fuel
  induction fuel with
  | zero =>
    intro listed a w hs hc hg
    have : Region.ready md ops listed = [] := by
      unfold Region.ready
      rw [List.filter_eq_nil_iff]
      intro i hi
      have hi : i < listed.size := by rw [hs]; simpa using hi
      have h0 : listed.toList.count false = 0 := by omega
      rw [List.count_eq_zero] at h0
      have : listed[i] = true := by
        cases h : listed[i] with
        | true => rfl
        | false => exact absurd (by rw [← h]; exact Array.getElem_mem_toList hi) h0
      simp [hi, this]
    exact ⟨this, hend _ _ _ hs this hg⟩
  | succ fuel ih =>
    intro listed a w hs hc hg
    refine ⟨fun h => hend _ _ _ hs h hg, fun i hi => ?_⟩
    refine wpOp_mono (fun a' w' h => ih _ a' w' (by simpa using hs) ?_ h) (hstep _ _ _ i hs hi hg)
    have h1 := (mem_ready.1 hi).1
    have hi' : i < listed.size := by
      rcases Nat.lt_or_ge i listed.size with h' | h'
      · exact h'
      · simp [Array.getElem?_eq_none h'] at h1
    have h2 : listed[i] = false := by simpa [hi'] using h1
    have : (listed.setIfInBounds i true).toList.count false + 1 = listed.toList.count false := by
      rw [Array.toList_setIfInBounds, List.count_set (by simpa using hi')]
      have : listed.toList[i]'(by simpa using hi') = false := by simpa using h2
      have h3 : 0 < listed.toList.count false := List.count_pos_iff.2 (by rw [← h2]; exact Array.getElem_mem_toList hi')
      simp only [this]
      simp
      have h4 : listed.toList.count false = Array.count false listed := by simp
      omega
    have e : List.count false (listed.setIfInBounds i true).toList + 1 ≤ fuel + 1 := by rw [this]; exact hc
    exact Nat.le_of_succ_le_succ e

/-- The value that operation j left in its temporary. -/
def leftAt (ops : Array Oper) (a : Act) (j : Nat) : Value :=
  match (ops[j]?).bind (·.dst) with
  | some d => a.eval (.tmp d)
  | none => undef
/-- Every edge leads backwards; no temporary is written twice. -/
def tidy (ops : Array Oper) : Bool :=
  (List.range ops.size).all fun i => match ops[i]? with
    | none => true
    | some o => (o.after.all fun e => !Region.binds .any e || e.on < i) &&
      (match o.dst with
       | none => true
       | some d => (List.range i).all fun j => match ops[j]? with | none => true | some p => p.dst != some d)
/-- Which operations can't have come up before operation i has. -/
def behind (i : Nat) : List Oper → List Bool → List Bool
  | [], acc => acc
  | o :: r, acc => behind i r (acc ++ [o.after.toList.any fun e => Region.binds .any e && (e.on == i || acc.getD e.on false)])
/-- Slot t is not written before operation i comes up. -/
def freeAt (ops : Array Oper) (i t : Nat) : Bool :=
  (List.range ops.size).all fun j => match ops[j]? with
    | none => true
    | some o => o.dst != some t || j == i || (behind i ops.toList []).getD j false

theorem tidy_edge (h : tidy ops = true) {i : Nat} {o : Oper} (ho : ops[i]? = some o) : ∀ e ∈ o.after, Region.binds .any e = true → e.on < i := by
  intro e he hb
  have hi : i < ops.size := (Array.getElem?_eq_some_iff.1 ho).1
  have := List.all_eq_true.1 h i (by simpa using hi)
  simp only [ho, Bool.and_eq_true, Array.all_eq_true_iff_forall_mem] at this
  have := this.1 e he
  simpa [hb] using this
theorem tidy_dst (h : tidy ops = true) {i j : Nat} {o p : Oper} {d : Nat} (ho : ops[i]? = some o) (hp : ops[j]? = some p) (hd : o.dst = some d) (hd' : p.dst = some d) : i = j := by
  have key : ∀ (i j : Nat) (o p : Oper), ops[i]? = some o → ops[j]? = some p → o.dst = some d → p.dst = some d → ¬ j < i := by
    intro i j o p ho hp hd hd' hlt
    have hi : i < ops.size := (Array.getElem?_eq_some_iff.1 ho).1
    have := List.all_eq_true.1 h i (by simpa using hi)
    simp only [ho, hd, Bool.and_eq_true] at this
    have := List.all_eq_true.1 this.2 j (by simpa using hlt)
    simp [hp, hd'] at this
  have h1 := key i j o p ho hp hd hd'
  have h2 := key j i p o hp ho hd' hd
  omega

structure Rely (ops : Array Oper) (a0 : Act) (D : Nat → Value → World → Prop) (I : World → Prop) (l : Array Bool) (a : Act) (w : World) : Prop where
  inv : I w
  defs : a.defers = a0.defers
  size : a.tmps.size = a0.tmps.size
  off : ∀ t, (∀ j o, ops[j]? = some o → l.getD j false = true → o.dst ≠ some t) → a.eval (.tmp t) = a0.eval (.tmp t)
  on : ∀ j, l.getD j false = true → D j (leftAt ops a j) w
  closed : ∀ j o, ops[j]? = some o → l.getD j false = true → ∀ e ∈ o.after, Region.binds .any e = true → l.getD e.on false = true

theorem behind_not {l : Array Bool} {i : Nat} (hl : l.getD i false = false) : ∀ (r pre : List Oper) (acc : List Bool), acc.length = pre.length →
    (∀ j o, (pre ++ r)[j]? = some o → l.getD j false = true → ∀ e ∈ o.after, Region.binds .any e = true → l.getD e.on false = true) →
    (∀ j, acc.getD j false = true → l.getD j false = false) → ∀ j, (behind i r acc).getD j false = true → l.getD j false = false
  | [], _, _, _, _, ha, j, hb => ha j hb
  | o :: r, pre, acc, hlen, hc, ha, j, hb => by
    refine behind_not hl r (pre ++ [o]) _ (by simp [hlen]) (by simpa using hc) ?_ j hb
    intro k hk
    by_cases hlt : k < acc.length
    · exact ha k (by rw [← hk]; simp [List.getElem?_append_left hlt])
    · by_cases hke : k = acc.length
      · subst hke
        simp only [List.getD_eq_getElem?_getD, List.getElem?_concat_length, Option.getD_some, List.any_eq_true] at hk
        obtain ⟨e, he, hk⟩ := hk
        simp only [Bool.and_eq_true, Bool.or_eq_true, beq_iff_eq] at hk
        obtain ⟨hbi, hk⟩ := hk
        cases hlj : l.getD acc.length false with
        | false => rfl
        | true =>
          have h1 := hc acc.length o (by rw [hlen]; simp) hlj e (by simpa using he) hbi
          rcases hk with hk | hk
          · rw [hk, hl] at h1; cases h1
          · rw [ha _ (by simpa using hk)] at h1; cases h1
      · rw [List.getD_eq_getElem?_getD, List.getElem?_eq_none (by simp; omega)] at hk
        cases hk

/-- What one operation must do. -/
def StepTo (P : Program) (ops : Array Oper) (Q : Exit → Act → World → Prop) (a0 : Act) (D : Nat → Value → World → Prop) (I : World → Prop) (R : Nat → World → World → Prop) (i : Nat) (o : Oper) : Prop :=
  ∀ a w, I w → (∀ t, freeAt ops i t = true → a.eval (.tmp t) = a0.eval (.tmp t)) → (∀ e ∈ o.after, Region.binds .any e = true → D e.on (leftAt ops a e.on) w) →
    if Region.wanted o (yielded ops a.tmps) = true then o.wp P a w (fun a' w' => ∃ v, a' = a.put o.dst v ∧ I w' ∧ R i w w' ∧ D i (if o.dst = none then undef else v) w') Q else D i undef w
def Steps (P : Program) (ops : Array Oper) (Q : Exit → Act → World → Prop) (a0 : Act) (D : Nat → Value → World → Prop) (I : World → Prop) (R : Nat → World → World → Prop) : Nat → List Oper → Prop
  | _, [] => True
  | i, o :: r => StepTo P ops Q a0 D I R i o ∧ Steps P ops Q a0 D I R (i + 1) r
theorem Steps.get {a0 : Act} {D : Nat → Value → World → Prop} {I : World → Prop} {R : Nat → World → World → Prop} : ∀ (l : List Oper) (n : Nat), Steps P ops Q a0 D I R n l → ∀ i o, l[i]? = some o → StepTo P ops Q a0 D I R (n + i) o
  | [], _, _, _, _, h => by simp at h
  | p :: r, n, hs, 0, o, h => by simp at h; subst h; exact hs.1
  | p :: r, n, hs, i + 1, o, h => by
    have := Steps.get r (n + 1) hs.2 i o (by simpa using h)
    rwa [show n + (i + 1) = n + 1 + i by omega]

theorem eval_put_self {a : Act} {d : Nat} {v : Value} (h : d < a.tmps.size) : (a.put (some d) v).eval (.tmp d) = v := by
  simp [Act.put, Act.eval, h]
theorem eval_put_ne {a : Act} {d t : Nat} {v : Value} (h : d ≠ t) : (a.put (some d) v).eval (.tmp t) = a.eval (.tmp t) := by
  simp [Act.put, Act.eval, h]
theorem size_put {a : Act} {d : Option Nat} {v : Value} : (a.put d v).tmps.size = a.tmps.size := by
  cases d <;> simp [Act.put]
theorem defers_put {a : Act} {d : Option Nat} {v : Value} : (a.put d v).defers = a.defers := by
  cases d <;> simp [Act.put]

/-- All the values put. -/
def putAll (vals : Nat → Value) : Nat → List Oper → Act → Act
  | _, [], a => a
  | i, o :: r, a => putAll vals (i + 1) r (a.put o.dst (vals i))
theorem putAll_size (vals : Nat → Value) : ∀ (l : List Oper) (n : Nat) (a : Act), (putAll vals n l a).tmps.size = a.tmps.size ∧ (putAll vals n l a).defers = a.defers
  | [], _, _ => ⟨rfl, rfl⟩
  | o :: r, n, a => by
    have := putAll_size vals r (n + 1) (a.put o.dst (vals n))
    rw [putAll]
    exact ⟨this.1.trans size_put, this.2.trans defers_put⟩
theorem putAll_off (vals : Nat → Value) (t : Nat) : ∀ (l : List Oper) (n : Nat) (a : Act), (∀ o ∈ l, o.dst ≠ some t) → (putAll vals n l a).eval (.tmp t) = a.eval (.tmp t)
  | [], _, _, _ => rfl
  | o :: r, n, a, h => by
    rw [putAll, putAll_off vals t r (n + 1) _ (fun p hp => h p (List.mem_cons_of_mem _ hp))]
    cases hd : o.dst with
    | none => rfl
    | some d => exact eval_put_ne (fun e => h o (by simp) (by rw [hd, e]))
theorem putAll_on (vals : Nat → Value) (t : Nat) : ∀ (l : List Oper) (n : Nat) (a : Act) (i : Nat) (o : Oper), l[i]? = some o → o.dst = some t → (∀ j p, l[j]? = some p → p.dst = some t → j = i) → t < a.tmps.size →
    (putAll vals n l a).eval (.tmp t) = vals (n + i)
  | [], _, _, _, _, h, _, _, _ => by simp at h
  | p :: r, n, a, 0, o, h, hd, hu, ht => by
    simp at h; subst h
    rw [putAll, putAll_off vals t r (n + 1) _ (fun q hq hqd => by
      obtain ⟨k, hk⟩ := List.mem_iff_getElem?.1 hq
      have := hu (k + 1) q (by simpa using hk) hqd
      omega), hd]
    exact eval_put_self ht
  | p :: r, n, a, i + 1, o, h, hd, hu, ht => by
    rw [putAll, putAll_on vals t r (n + 1) _ i o (by simpa using h) hd (fun j q hq hqd => by have := hu (j + 1) q (by simpa using hq) hqd; omega) (by rw [size_put]; exact ht)]
    congr 1; omega

theorem wp_region_rely {id : Nat} {a0 : Act} {w0 : World} (D : Nat → Value → World → Prop) (I : World → Prop) (R : Nat → World → World → Prop)
    (hm : P.follows .mixedOrders = true) (ht : tidy ops = true) (hin : (ops.all fun o => match o.dst with | some d => decide (d < a0.tmps.size) | none => true) = true)
    (late : List (Nat × Nat)) (hlate : (late.all fun p => (behind p.1 ops.toList []).getD p.2 false) = true)
    (hst : ∀ i j v w w', j ≠ i → (i, j) ∉ late → D j v w → R i w w' → D j v w') (h0 : I w0.drew)
    (hs : Steps P ops Q a0 D I R 0 ops.toList)
    (hend : ∀ vals w, I w → (∀ i, i < ops.size → D i (vals i) w) → Q .normal (putAll vals 0 ops.toList a0) w) : (Code.region id ops true).wp P Q a0 w0 := by
  refine wp_region_any hm (wpAny_held (Rely ops a0 D I) ?_ ?_ ops.size _ a0 _ (by simp) (by simp) ?_)
  · intro l a w i hls hi hg
    obtain ⟨hun, o, ho, hall⟩ := mem_ready.1 hi
    have hisz : i < ops.size := (Array.getElem?_eq_some_iff.1 ho).1
    have hun' : l.getD i false = false := by
      have : i < l.size := by omega
      simpa [this] using hun
    have hstep : StepTo P ops Q a0 D I R i o := by
      have := Steps.get (P := P) (Q := Q) ops.toList 0 hs i o (by simpa using ho)
      rwa [Nat.zero_add] at this
    have h1 := hstep a w hg.inv (fun t hf => hg.off t fun j p hp hlj hd => by
      have hj : j < ops.size := (Array.getElem?_eq_some_iff.1 hp).1
      have := List.all_eq_true.1 hf j (by simpa using hj)
      simp only [hp, hd, Bool.or_eq_true, beq_iff_eq, bne_self_eq_false, Bool.false_eq_true, false_or] at this
      rcases this with rfl | hb
      · rw [hun'] at hlj; cases hlj
      · rw [behind_not hun' ops.toList [] [] rfl (fun j o ho => hg.closed j o (by simpa using ho)) (by simp) j (by simpa using hb)] at hlj; cases hlj)
      (fun e he hb => hg.on e.on (hall e he hb))
    have hsame : ∀ v j, j ≠ i → l.getD j false = true → leftAt ops (a.put o.dst v) j = leftAt ops a j := by
      intro v j hji hlj
      unfold leftAt
      cases hp : ops[j]? with
      | none => rfl
      | some p =>
        cases hd : p.dst with
        | none => simp [hd]
        | some d =>
          simp only [Option.bind_some, hd]
          cases hd' : o.dst with
          | none => rfl
          | some d' => exact eval_put_ne (fun e => hji (tidy_dst ht hp ho hd (by rw [hd', e])))
    have hself : ∀ v, leftAt ops (a.put o.dst v) i = if o.dst = none then undef else v := by
      intro v
      unfold leftAt
      simp only [ho, Option.bind_some]
      cases hd : o.dst with
      | none => simp
      | some d =>
        have := (Array.all_eq_true_iff_forall_mem.1 hin) o (Array.mem_of_getElem? ho)
        simp only [hd, decide_eq_true_eq] at this
        simp only [reduceCtorEq, if_false]
        exact eval_put_self (by rw [hg.size]; exact this)
    have hset : ∀ j, (l.setIfInBounds i true).getD j false = true → j = i ∨ l.getD j false = true := by
      intro j hj
      by_cases hji : j = i
      · exact .inl hji
      · right; simpa [Array.getElem?_setIfInBounds, Ne.symm hji] using hj
    have hnext : ∀ v w', I w' → R i w w' → D i (if o.dst = none then undef else v) w' → Rely ops a0 D I (l.setIfInBounds i true) (a.put o.dst v) w' := by
      intro v w' hI hR hD
      refine ⟨hI, defers_put.trans hg.defs, size_put.trans hg.size, ?_, ?_, ?_⟩
      · intro t hno
        have hne : o.dst ≠ some t := hno i o ho (by have : i < l.size := by omega
                                                    simp [this])
        have h2 : (a.put o.dst v).eval (.tmp t) = a.eval (.tmp t) := by
          cases hd : o.dst with
          | none => rfl
          | some d => exact eval_put_ne (fun e => hne (by rw [hd, e]))
        rw [h2]
        refine hg.off t fun j p hp hlj => hno j p hp ?_
        by_cases hji : j = i
        · subst hji; have : j < l.size := by omega
          simp [this]
        · simpa [Array.getElem?_setIfInBounds, Ne.symm hji] using hlj
      · intro j hj
        by_cases hji : j = i
        · subst hji; rw [hself]; exact hD
        · have hlj := (hset j hj).resolve_left hji
          rw [hsame v j hji hlj]
          refine hst i j _ _ _ hji (fun hmem => ?_) (hg.on j hlj) hR
          have hb := List.all_eq_true.1 hlate (i, j) hmem
          rw [behind_not hun' ops.toList [] [] rfl (fun j o ho => hg.closed j o (by simpa using ho)) (by simp) j hb] at hlj
          cases hlj
      · intro j p hp hj e he hb
        have hmono : ∀ k, l.getD k false = true → (l.setIfInBounds i true).getD k false = true := by
          intro k hk
          by_cases hki : k = i
          · subst hki; rw [hun'] at hk; cases hk
          · simpa [Array.getElem?_setIfInBounds, Ne.symm hki] using hk
        rcases hset j hj with rfl | hlj
        · rw [ho] at hp; injection hp with hp; subst hp
          exact hmono _ (hall e he hb)
        · exact hmono _ (hg.closed j p hp hlj e he hb)
    have hskip : D i undef w → Rely ops a0 D I (l.setIfInBounds i true) (a.put o.dst undef) w := by
      intro hD
      refine ⟨hg.inv, defers_put.trans hg.defs, size_put.trans hg.size, ?_, ?_, ?_⟩
      · intro t hno
        have hne : o.dst ≠ some t := hno i o ho (by have : i < l.size := by omega
                                                    simp [this])
        have h2 : (a.put o.dst undef).eval (.tmp t) = a.eval (.tmp t) := by
          cases hd : o.dst with
          | none => rfl
          | some d => exact eval_put_ne (fun e => hne (by rw [hd, e]))
        rw [h2]
        refine hg.off t fun j p hp hlj => hno j p hp ?_
        by_cases hji : j = i
        · subst hji; have : j < l.size := by omega
          simp [this]
        · simpa [Array.getElem?_setIfInBounds, Ne.symm hji] using hlj
      · intro j hj
        by_cases hji : j = i
        · subst hji; rw [hself]; simpa using hD
        · have hlj := (hset j hj).resolve_left hji
          rw [hsame undef j hji hlj]
          exact hg.on j hlj
      · intro j p hp hj e he hb
        have hmono : ∀ k, l.getD k false = true → (l.setIfInBounds i true).getD k false = true := by
          intro k hk
          by_cases hki : k = i
          · subst hki; rw [hun'] at hk; cases hk
          · simpa [Array.getElem?_setIfInBounds, Ne.symm hki] using hk
        rcases hset j hj with rfl | hlj
        · rw [ho] at hp; injection hp with hp; subst hp
          exact hmono _ (hall e he hb)
        · exact hmono _ (hg.closed j p hp hlj e he hb)
    unfold wpOp
    simp only [ho]
    split
    · rename_i hw
      rw [if_pos hw] at h1
      refine .inl (Oper.wp_mono ?_ h1)
      rintro a' w' ⟨v, rfl, hI, hR, hD⟩
      exact hnext v w' hI hR hD
    · rename_i hw
      rw [if_neg hw] at h1
      exact hskip h1
  · intro l a w hls hr hg
    have hall : ∀ j, j < ops.size → l.getD j false = true := by
      intro j
      induction j using Nat.strongRecOn with
      | ind j ih =>
        intro hj
        cases hlj : l.getD j false with
        | true => rfl
        | false =>
          exfalso
          have : j ∈ Region.ready .any ops l := mem_ready.2 ⟨(by
            have : j < l.size := by omega
            simpa [this] using hlj), ops[j], by simp [hj], fun e he hb => by
            have hlt := tidy_edge ht (i := j) (o := ops[j]) (by simp [hj]) e he hb
            exact ih e.on hlt (by omega)⟩
          rw [hr] at this
          cases this
    have := hend (fun i => leftAt ops a i) w hg.inv (fun i hi => hg.on i (hall i hi))
    have e : putAll (fun i => leftAt ops a i) 0 ops.toList a0 = a := by
      have hsz := putAll_size (fun i => leftAt ops a i) ops.toList 0 a0
      have key : ∀ t, t < a0.tmps.size → (putAll (fun i => leftAt ops a i) 0 ops.toList a0).eval (.tmp t) = a.eval (.tmp t) := by
        intro t htl
        by_cases hex : ∃ (i : Nat) (o : Oper), ops[i]? = some o ∧ o.dst = some t
        · obtain ⟨i, o, ho, hd⟩ := hex
          rw [putAll_on _ t ops.toList 0 a0 i o (by simpa using ho) hd (fun j p hp hpd => tidy_dst ht (by simpa using hp) ho hpd hd) htl, Nat.zero_add]
          simp [leftAt, ho, hd]
        · rw [putAll_off _ t ops.toList 0 a0 (fun o ho hd => by
            obtain ⟨i, hi⟩ := List.mem_iff_getElem?.1 ho
            exact hex ⟨i, o, by simpa using hi, hd⟩)]
          exact (hg.off t fun j p hp _ hpd => hex ⟨j, p, hp, hpd⟩).symm
      generalize putAll (fun i => leftAt ops a i) 0 ops.toList a0 = b at *
      obtain ⟨bt, bd⟩ := b
      obtain ⟨at_, ad⟩ := a
      have h1 : bt = at_ := by
        apply Array.ext
        · exact hsz.1.trans hg.size.symm
        · intro t h1 h2
          have h3 := key t (by rw [← hsz.1]; exact h1)
          simpa [Act.eval, h1, h2] using h3
      have h2 : bd = ad := hsz.2.trans hg.defs.symm
      rw [h1, h2]
    rwa [e] at this
  · exact ⟨h0, rfl, rfl, fun _ _ => rfl, fun j hj => by
      exfalso
      rw [Array.getD_eq_getD_getElem?, Array.getElem?_replicate] at hj
      split at hj <;> simp at hj, fun j o ho hj => by
      exfalso
      rw [Array.getD_eq_getD_getElem?, Array.getElem?_replicate] at hj
      split at hj <;> simp at hj⟩
end
end Go.Proofs.YtglafpdealjlnaaGreat
namespace Go.Proofs.YtglafpdealjlnaaGreat
open Go.RowKit
set_option linter.unusedSimpArgs false
set_option linter.unusedVariables false

/-- What a region may do: write to the blocks F; J holds throughout; what operation i has settled (K i) stays. -/
structure Env where
  F : List Nat
  J : World → Prop
  K : Nat → Value → World → Prop
  late : List (Nat × Nat)
  hJ : ∀ w w', J w → Upd [] w w' → J w'
  hK : ∀ n v w w', K n v w → Upd [] w w' → K n v w'
/-- Nothing that was there is written. -/
def Env.pure : Env := ⟨[], fun _ => True, fun _ _ _ => True, [], fun _ _ _ _ => trivial, fun _ _ _ _ _ _ => trivial⟩
/-- One block is written whole, once, by operation i. -/
def Env.one (i g : Nat) (t : TypeId) (n : Nat) (cs : Array Value) : Env := ⟨[g], fun w => ∃ c : Array Value, Blk w g t c ∧ c.size = n, fun j _ w => bif j == i then Blk w g t cs else True, [],
  fun _ _ ⟨c, h, hn⟩ hu => ⟨c, h.upd hu (by simp), hn⟩, fun j _ _ _ h hu => by
    cases hj : j == i with
    | true => simp only [hj, cond_true] at h ⊢; exact h.upd hu (by simp)
    | false => simp only [hj, cond_false]⟩
structure Kept (E : Env) (i : Nat) (w w' : World) : Prop where
  upd : Upd E.F w w'
  kept : ∀ j v, j ≠ i → (i, j) ∉ E.late → E.K j v w → E.K j v w'
structure Inv (E : Env) (w0 w : World) : Prop where
  upd : Upd E.F w0 w
  hold : E.J w
theorem Kept.refl (E : Env) (i : Nat) (w : World) : Kept E i w w := ⟨Upd.refl _ _, fun _ _ _ _ h => h⟩
theorem Upd.more {F : List Nat} {w w' : World} (h : Upd [] w w') : Upd F w w' := h.mono (by simp)
theorem Kept.of_upd {E : Env} {i : Nat} {w w' : World} (h : Upd [] w w') : Kept E i w w' := ⟨h.more, fun j v _ _ hk => E.hK j v _ _ hk h⟩
theorem Inv.next {E : Env} {w0 w w' : World} (h : Inv E w0 w) (hu : Upd [] w w') : Inv E w0 w' := ⟨h.upd.trans hu.more, E.hJ _ _ h.hold hu⟩
/-- What is known of a value, and is kept where the blocks F alone are written. -/
structure Fact (E : Env) where
  p : Value → World → Prop
  keeps : ∀ v w w', p v w → Upd E.F w w' → p v w'
def Fact.is {E : Env} (x : Value) : Fact E := ⟨fun v _ => v = x, fun _ _ _ h _ => h⟩
def Fact.any {E : Env} : Fact E := ⟨fun _ _ => True, fun _ _ _ h _ => h⟩
def Fact.on {E : Env} (p : Value → World → Prop) (h : ∀ v w w', p v w → Upd E.F w w' → p v w') : Fact E := ⟨p, h⟩
/-- A block that the region made. -/
def Fact.made {E : Env} (lo : Nat) (hF : ∀ k ∈ E.F, k < lo) (n : Nat) (t : TypeId) (cs : Array Value) : Fact E :=
  ⟨fun v w => ∃ g, lo ≤ g ∧ v = .slice (some ⟨g, 0, none⟩) n n ∧ Blk w g t cs, fun v w w' ⟨g, h1, h2, h3⟩ hr => ⟨g, h1, h2, h3.upd hr fun hm => by have := hF g hm; omega⟩⟩
def factAt {E : Env} (l : List (Fact E)) (i : Nat) : Value → World → Prop := match l[i]? with
  | some f => f.p
  | none => fun _ _ => True
theorem factAt_keeps {E : Env} (l : List (Fact E)) (i : Nat) (v : Value) (w w' : World) (h : factAt l i v w) (hr : Upd E.F w w') : factAt l i v w' := by
  unfold factAt at *
  cases hl : l[i]? with
  | none => trivial
  | some f => simp only [hl] at h ⊢; exact f.keeps _ _ _ h hr
def Known (E : Env) (l : List (Fact E)) (i : Nat) (v : Value) (w : World) : Prop := factAt l i v w ∧ E.K i v w

theorem ev (a : Act) (t : Nat) : a.eval (.tmp t) = a.tmps[t]?.getD undef := by simp [Act.eval]

section
variable {P : Program} {ops : Array Oper} {Q : Exit → Act → World → Prop} {a0 : Act} {w0 : World}
theorem Steps.nil {D : Nat → Value → World → Prop} {I : World → Prop} {R : Nat → World → World → Prop} {i : Nat} : Steps P ops Q a0 D I R i [] := trivial
theorem Steps.cons {D : Nat → Value → World → Prop} {I : World → Prop} {R : Nat → World → World → Prop} {i : Nat} {o : Oper} {r : List Oper} (h : StepTo P ops Q a0 D I R i o) (t : Steps P ops Q a0 D I R (i + 1) r) : Steps P ops Q a0 D I R i (o :: r) := ⟨h, t⟩

theorem wp_region_facts {id : Nat} (E : Env) (hJ : E.J w0) (facts : List (Fact E))
    (hm : P.follows .mixedOrders = true) (hlate : (E.late.all fun p => (behind p.1 ops.toList []).getD p.2 false) = true) (ht : tidy ops = true) (hin : (ops.all fun o => match o.dst with | some d => decide (d < a0.tmps.size) | none => true) = true)
    (hs : Steps P ops Q a0 (Known E facts) (Inv E w0) (Kept E) 0 ops.toList)
    (hend : ∀ vals w, Upd E.F w0 w → (∀ i, i < ops.size → Known E facts i (vals i) w) → Q .normal (putAll vals 0 ops.toList a0) w) : (Code.region id ops true).wp P Q a0 w0 :=
  wp_region_rely (Known E facts) (Inv E w0) (Kept E) hm ht hin E.late hlate (fun i j v w w' hji hl h hr => ⟨factAt_keeps facts j v w w' h.1 hr.upd, hr.kept j v hji hl h.2⟩)
    ⟨(Upd.refl E.F w0).drew, E.hJ _ _ hJ (Upd.refl [] w0).drew⟩ hs (fun vals w hi hv => hend vals w hi.upd hv)

variable {E : Env} {facts : List (Fact E)}
/-- The operation yields x, whatever the world. -/
theorem step_is {i : Nat} {o : Oper} (x : Value) (hg : o.guard = none) (hd : ∃ d, o.dst = some d) (hf : factAt facts i = fun v _ => v = x) (hk : ∀ v w, E.K i v w)
    (h : ∀ a w, Inv E w0 w → (∀ t, freeAt ops i t = true → a.eval (.tmp t) = a0.eval (.tmp t)) → (∀ e ∈ o.after, Region.binds .any e = true → Known E facts e.on (leftAt ops a e.on) w) → (execOp a.eval o).run P w = .ok (.value x) w) :
    StepTo P ops Q a0 (Known E facts) (Inv E w0) (Kept E) i o := by
  intro a w hI hF hD
  rw [if_pos (by simp [Region.wanted, hg])]
  obtain ⟨d, hd⟩ := hd
  unfold Oper.wp
  rw [h a w hI hF hD]
  exact ⟨x, rfl, hI, Kept.refl _ _ _, by rw [hf, hd]; simp, hk _ _⟩
/-- The operation runs to a value, the world after it. -/
theorem step_run {i : Nat} {o : Oper} (hg : o.guard = none) (hk : ∀ v w, E.K i v w)
    (h : ∀ a w, Inv E w0 w → (∀ t, freeAt ops i t = true → a.eval (.tmp t) = a0.eval (.tmp t)) → (∀ e ∈ o.after, Region.binds .any e = true → Known E facts e.on (leftAt ops a e.on) w) →
      ∃ x w', (execOp a.eval o).run P w = .ok (.value x) w' ∧ Upd [] w w' ∧ factAt facts i (if o.dst = none then undef else x) w') :
    StepTo P ops Q a0 (Known E facts) (Inv E w0) (Kept E) i o := by
  intro a w hI hF hD
  rw [if_pos (by simp [Region.wanted, hg])]
  obtain ⟨x, w', h1, h2, h3⟩ := h a w hI hF hD
  unfold Oper.wp
  rw [h1]
  exact ⟨x, rfl, hI.next h2, .of_upd h2, h3, hk _ _⟩
/-- The operation yields a value and writes. -/
theorem step_gen {i : Nat} {o : Oper} (hg : o.guard = none) (hd : ∃ d, o.dst = some d)
    (h : ∀ a w, Inv E w0 w → (∀ t, freeAt ops i t = true → a.eval (.tmp t) = a0.eval (.tmp t)) → (∀ e ∈ o.after, Region.binds .any e = true → Known E facts e.on (leftAt ops a e.on) w) →
      ∃ x w', (execOp a.eval o).run P w = .ok (.value x) w' ∧ Upd E.F w w' ∧ E.J w' ∧ (∀ j v, j ≠ i → (i, j) ∉ E.late → E.K j v w → E.K j v w') ∧ Upd E.F w0 w' ∧ factAt facts i x w' ∧ E.K i x w') :
    StepTo P ops Q a0 (Known E facts) (Inv E w0) (Kept E) i o := by
  intro a w hI hF hD
  rw [if_pos (by simp [Region.wanted, hg])]
  obtain ⟨x, w', h1, h2, h3, h4, h5, h6, h7⟩ := h a w hI hF hD
  obtain ⟨d, hd⟩ := hd
  unfold Oper.wp
  rw [h1]
  exact ⟨x, rfl, ⟨h5, h3⟩, ⟨h2, h4⟩, by rw [if_neg (by rw [hd]; simp)]; exact ⟨h6, h7⟩⟩
/-- The operation writes. -/
theorem step_set {i : Nat} {o : Oper} (hg : o.guard = none) (hd : o.dst = none) (hf : factAt facts i = fun _ _ => True)
    (h : ∀ a w, Inv E w0 w → (∀ t, freeAt ops i t = true → a.eval (.tmp t) = a0.eval (.tmp t)) → (∀ e ∈ o.after, Region.binds .any e = true → Known E facts e.on (leftAt ops a e.on) w) →
      ∃ w', (execOp a.eval o).run P w = .ok .skip w' ∧ Upd E.F w w' ∧ E.J w' ∧ E.K i undef w' ∧ ∀ j v, j ≠ i → (i, j) ∉ E.late → E.K j v w → E.K j v w') :
    StepTo P ops Q a0 (Known E facts) (Inv E w0) (Kept E) i o := by
  intro a w hI hF hD
  rw [if_pos (by simp [Region.wanted, hg])]
  obtain ⟨w', h1, h2, h3, h4, h5⟩ := h a w hI hF hD
  unfold Oper.wp
  rw [h1]
  exact ⟨undef, rfl, ⟨hI.upd.trans h2, h3⟩, ⟨h2, h5⟩, by rw [hf]; trivial, by rw [if_pos hd]; exact h4⟩
/-- The operation is a call. -/
theorem step_call {i : Nat} {o : Oper} (hg : o.guard = none) (hk : ∀ v w, E.K i v w)
    (h : ∀ a w, Inv E w0 w → (∀ t, freeAt ops i t = true → a.eval (.tmp t) = a0.eval (.tmp t)) → (∀ e ∈ o.after, Region.binds .any e = true → Known E facts e.on (leftAt ops a e.on) w) →
      ∃ f args, (execOp a.eval o).run P w = .ok (.enter f args) w ∧ Calls P f args w fun e w' => ∃ x, e = .returned x ∧ Upd [] w w' ∧ factAt facts i (if o.dst = none then undef else x) w') :
    StepTo P ops Q a0 (Known E facts) (Inv E w0) (Kept E) i o := by
  intro a w hI hF hD
  rw [if_pos (by simp [Region.wanted, hg])]
  obtain ⟨f, args, h1, h2⟩ := h a w hI hF hD
  unfold Oper.wp
  rw [h1]
  refine Calls.mono h2 ?_
  rintro e w' ⟨x, rfl, h3, h4⟩
  exact ⟨x, rfl, hI.next h3, .of_upd h3, h4, hk _ _⟩
end

theorem arr1 {c : Array Value} (h : c.size = 1) : ∃ x, c = #[x] := by
  obtain ⟨l⟩ := c
  match l, h with
  | [x], _ => exact ⟨x, rfl⟩
theorem arr2 {c : Array Value} (h : c.size = 2) : ∃ x y, c = #[x, y] := by
  obtain ⟨l⟩ := c
  match l, h with
  | [x, y], _ => exact ⟨x, y, rfl⟩
theorem arr3 {c : Array Value} (h : c.size = 3) : ∃ x y z, c = #[x, y, z] := by
  obtain ⟨l⟩ := c
  match l, h with
  | [x, y, z], _ => exact ⟨x, y, z, rfl⟩
theorem arr4 {c : Array Value} (h : c.size = 4) : ∃ x y z u, c = #[x, y, z, u] := by
  obtain ⟨l⟩ := c
  match l, h with
  | [x, y, z, u], _ => exact ⟨x, y, z, u, rfl⟩
theorem arr5 {c : Array Value} (h : c.size = 5) : ∃ x y z u v, c = #[x, y, z, u, v] := by
  obtain ⟨l⟩ := c
  match l, h with
  | [x, y, z, u, v], _ => exact ⟨x, y, z, u, v, rfl⟩
/-- One slice grows, by operation i; operation k hands its value on. -/
def Env.grow (i k : Nat) (e : TypeId) (size lo : Nat) (v : Value) (n : Nat) (xs : List Value) (own : List Nat) (m : Nat) (ys : List Value) : Env :=
  ⟨own, fun w => Own w e size v n xs own, fun j v' w => bif j == i || j == k then ∃ g off cap own', v' = .slice (some ⟨g, off, none⟩) m cap ∧ Own w e size v' m ys own' ∧ ∀ k, k ∈ own' → k ∈ own ∨ lo ≤ k else True, [(i, k)],
    fun _ _ h hu => h.upd hu (by simp), fun j v' _ _ h hu => by
    cases hj : j == i || j == k with
    | true => simp only [hj, cond_true] at h ⊢; obtain ⟨g, off, cap, own', h1, h2, h3⟩ := h; exact ⟨g, off, cap, own', h1, h2.upd hu (by simp), h3⟩
    | false => simp only [hj, cond_false]⟩
/-- The append itself, and the value handed on. -/
theorem Env.grow_set {i k : Nat} {e : TypeId} {size lo : Nat} {v : Value} {n : Nat} {xs : List Value} {own : List Nat} {m : Nat} {ys : List Value} {w0 w w' : World} {x : Value}
    (hu : Upd own w0 w) (r4 : Upd own w w') (r5 : Own w' e size v n xs own) (hx : ∃ g off cap own', x = .slice (some ⟨g, off, none⟩) m cap ∧ Own w' e size x m ys own' ∧ ∀ k, k ∈ own' → k ∈ own ∨ lo ≤ k) :
    Upd (Env.grow i k e size lo v n xs own m ys).F w w' ∧ (Env.grow i k e size lo v n xs own m ys).J w' ∧
      (∀ j v', j ≠ i → (i, j) ∉ (Env.grow i k e size lo v n xs own m ys).late → (Env.grow i k e size lo v n xs own m ys).K j v' w → (Env.grow i k e size lo v n xs own m ys).K j v' w') ∧
      Upd (Env.grow i k e size lo v n xs own m ys).F w0 w' ∧ True ∧ (Env.grow i k e size lo v n xs own m ys).K i x w' :=
  ⟨r4, r5, fun j v' hj hl _ => by
    have h1 : (j == i || j == k) = false := by
      simp only [Env.grow, List.mem_singleton, Prod.mk.injEq, true_and] at hl
      simp [hj, hl]
    simp only [Env.grow, h1, cond_false], hu.trans r4, trivial, by simp only [Env.grow, BEq.rfl, Bool.true_or, cond_true]; exact hx⟩
theorem Env.grow_get {i k : Nat} {e : TypeId} {size lo : Nat} {v : Value} {n : Nat} {xs : List Value} {own : List Nat} {m : Nat} {ys : List Value} {w : World} {x : Value} (j : Nat) (hj : (j == i || j == k) = true)
    (h : (Env.grow i k e size lo v n xs own m ys).K j x w) : ∃ g off cap own', x = .slice (some ⟨g, off, none⟩) m cap ∧ Own w e size x m ys own' ∧ ∀ k, k ∈ own' → k ∈ own ∨ lo ≤ k := by
  simp only [Env.grow, hj, cond_true] at h
  exact h
theorem Env.grow_on {i k : Nat} {e : TypeId} {size lo : Nat} {v : Value} {n : Nat} {xs : List Value} {own : List Nat} {m : Nat} {ys : List Value} {w0 w : World} {x : Value}
    (hi : Inv (Env.grow i k e size lo v n xs own m ys) w0 w) (hx : (Env.grow i k e size lo v n xs own m ys).K i x w) :
    Upd (Env.grow i k e size lo v n xs own m ys).F w w ∧ (Env.grow i k e size lo v n xs own m ys).J w ∧
      (∀ j v', j ≠ k → (k, j) ∉ (Env.grow i k e size lo v n xs own m ys).late → (Env.grow i k e size lo v n xs own m ys).K j v' w → (Env.grow i k e size lo v n xs own m ys).K j v' w) ∧
      Upd (Env.grow i k e size lo v n xs own m ys).F w0 w ∧ True ∧ (Env.grow i k e size lo v n xs own m ys).K k x w :=
  ⟨Upd.refl _ _, hi.hold, fun _ _ _ _ h => h, hi.upd, trivial, by
    have := Env.grow_get i (by simp) hx
    simp only [Env.grow, BEq.rfl, Bool.or_true, cond_true]; exact this⟩
/-- A struct of n fields stored whole into a block of n cells. -/
theorem Env.one_set {i g : Nat} {t : TypeId} {n : Nat} {cs : Array Value} {w w' : World} (hu : Upd [g] w w') (hb : Blk w' g t cs) (hn : cs.size = n) :
    Upd (Env.one i g t n cs).F w w' ∧ (Env.one i g t n cs).J w' ∧ (Env.one i g t n cs).K i undef w' ∧ ∀ j v, j ≠ i → (i, j) ∉ (Env.one i g t n cs).late → (Env.one i g t n cs).K j v w → (Env.one i g t n cs).K j v w' :=
  ⟨hu, ⟨cs, hb, hn⟩, by simp [Env.one, hb], fun j v hj _ _ => by simp [Env.one, hj]⟩
theorem exec_append {P : Program} {o : Oper} {a : Act} {s x : Operand} {t : TypeId} {v u r : Value} {w w' : World} (ho : o.op = .call { callee := .builtin .append, args := #[s, x], argTypes := #[t, t] })
    (hs : a.eval s = v) (hx : a.eval x = u) (hrun : (Builtin.append_ #[t, t] o.type #[v, u]).run P w = .ok r w') : (execOp a.eval o).run P w = .ok (.value r) w' := by
  unfold execOp
  simp only [ho, resolve, invoke, builtin, Sem.run_bind, Sem.run_pure, Result.andThen_ok, List.map_toArray, List.map_cons, List.map_nil, hs, hx, hrun]
end Go.Proofs.YtglafpdealjlnaaGreat
namespace Go.Proofs.YtglafpdealjlnaaGreat
open Go.RowKit
set_option linter.unusedSimpArgs false
set_option maxRecDepth 100000
set_option linter.unusedVariables false

theorem av_ite {α : Type} (x y : Av) (A B : α) :
    (if x.must = y.must then if x.hidden = y.hidden then if x.vendor = y.vendor then if x.kind = y.kind then if x.val.toList = y.val.toList then A else B else B else B else B else B) = if x = y then A else B := by
  obtain ⟨a, b, c, d, e⟩ := x
  obtain ⟨a', b', c', d', e'⟩ := y
  simp only [Av.mk.injEq, str_inj']
  by_cases h1 : a = a' <;> by_cases h2 : b = b' <;> by_cases h3 : c = c' <;> by_cases h4 : d = d' <;> by_cases h5 : e = e' <;> simp [h1, h2, h3, h4, h5]

/-- The place of the first one that is so, or -1. -/
def ixa (p : Av → Bool) : List Av → Nat → Int
  | [], _ => -1
  | t :: l, k => if p t = true then k else ixa p l (k + 1)
theorem ixa_any (p : Av → Bool) (l : List Av) (k : Nat) : decide (0 ≤ ixa p l k) = l.any p := by
  induction l generalizing k with
  | nil => simp [ixa]
  | cons t l ih =>
    rw [ixa, List.any_cons]
    cases h : p t with
    | true => simp
    | false => simp [ih]

set_option maxHeartbeats 1000000 in
theorem indexAv_any (f : Nat) (c : Value) (p : Av → Bool) (l : List Av) (v : Value) (w : World) (hl : AvsAt w v l)
    (hcf : ∀ x W, (callFunc f #[x, c]).run Tryz.prog W = .ok (.enter f #[x, c]) W)
    (hf : ∀ t ∈ l, ∀ W : World, Upd [] w W → Calls Tryz.prog f #[t.agg, c] W fun e w' => e = .returned (.bool (p t)) ∧ Upd [] W w') :
    Calls Tryz.prog 239 #[v, .func (.func f) #[] #[c]] w fun e w' => e = .returned (.int .i64 (ixa p l 0)) ∧ Upd [] w w' := by
  obtain ⟨ao, cap, rfl, h1, h2, h3⟩ := id hl
  obtain ⟨n, hn⟩ : ∃ n, n = l.length := ⟨_, rfl⟩
  rw [← hn] at h1
  rw [← hn]
  have HL := Lib.hid hl
  have HN := Lib.hid hn
  have HF := Lib.hid hf
  simp only [maxLen] at h2
  clear h3 hl hn hf
  go_enter Tryz.func239, Tryz.ntmps239
  go_wp2
  go_loopg [8] n (fun m s8 wr => ∃ k : Nat, k + m = n ∧ s8 = .int .i64 k ∧ ixa p (l.drop k) k = ixa p l 0 ∧ Upd [] w wr)
  case atStart => exact ⟨0, by omega, rfl, rfl, Upd.refl _ _⟩
  case round =>
    obtain ⟨k, hk, rfl, hi, hu⟩ := hrel
    by_cases t : k < n
    · obtain ⟨x, hx⟩ : ∃ x, l[k]? = some x := by
        have := HN.out
        exact ⟨_, List.getElem?_eq_getElem (by omega)⟩
      have HC := Lib.hid (HF.out x (List.mem_of_getElem? hx))
      obtain ⟨ao', cap', e0, _, _, h3⟩ := HL.out.upd hu
      injection e0 with e0 _ e2
      subst e0 e2
      obtain ⟨q, rfl, c0, c1, c2, c3, c4⟩ := h3 k x hx
      clear h3
      have hd : l.drop k = x :: l.drop (k + 1) := by
        obtain ⟨h5, h6⟩ := List.getElem?_eq_some_iff.1 hx
        rw [List.drop_eq_getElem_cons h5, h6]
      rw [hd, ixa] at hi
      have HI := Lib.hid hi
      have HU := Lib.hid hu
      clear hi hd hu hx
      by_cases t1 : p x = true
      · go_wp2_with fail
        refine (HC.out _ HU.out).mono ?_
        rintro e w' ⟨rfl, hu2⟩
        rw [t1]
        have HU2 := Lib.hid (HU.out.trans hu2)
        clear hu2
        go_wp2
        go_ret
        exact ⟨by rw [← HI.out, if_pos t1]; rfl, HU2.out⟩
      · have t1 : p x = false := by simpa using t1
        go_wp2_with fail
        refine (HC.out _ HU.out).mono ?_
        rintro e w' ⟨rfl, hu2⟩
        rw [t1]
        have HU2 := Lib.hid (HU.out.trans hu2)
        clear hu2
        go_wp2
        go_roundg (n - (k + 1))
        case rel => exact ⟨k + 1, by omega, by go_num, by rw [← HI.out, if_neg (by simp [t1])], HU2.out⟩
        case measure => omega
    · obtain rfl : k = n := by omega
      have hd : l.drop k = [] := by rw [HN.out]; simp
      rw [hd] at hi
      have HI := Lib.hid hi
      clear hi hd
      go_wp2
      go_ret
      exact ⟨by rw [← HI.out]; rfl, hu⟩

theorem ixa_spec (p : Av → Bool) (l : List Av) (k : Nat) : (ixa p l k = -1 ∧ l.find? p = none) ∨ ∃ (i : Nat) (t : Av), ixa p l k = ((k + i : Nat) : Int) ∧ l[i]? = some t ∧ l.find? p = some t := by
  induction l generalizing k with
  | nil => exact .inl ⟨rfl, rfl⟩
  | cons t l ih =>
    rw [ixa]
    by_cases h : p t = true
    · rw [if_pos h]
      exact .inr ⟨0, t, rfl, rfl, by simp [h]⟩
    · rw [if_neg h]
      have h' : p t = false := by simpa using h
      rcases ih (k + 1) with ⟨h1, h2⟩ | ⟨i, x, h1, h2, h3⟩
      · exact .inl ⟨h1, by simp [h', h2]⟩
      · exact .inr ⟨i + 1, x, by rw [h1]; congr 1; omega, by simpa using h2, by simp [h', h3]⟩
def avIs (kind : Int) (t : Av) : Bool := t.vendor == 0 && t.kind == kind
def findAv (kind : Int) (l : List Av) : ByteArray × Bool := match l.find? (avIs kind) with
  | some t => (t.val, true)
  | none => (⟨#[]⟩, false)

set_option maxHeartbeats 400000 in
theorem avFind1_any (kind : Int) (t : Av) (g : Nat) (w : World) (hg : w.cell? ⟨g, 0, none⟩ = some (.int .i64 kind)) :
    Calls Tryz.prog 240 #[t.agg, .pointer (some ⟨g, 0, none⟩)] w fun e w' => e = .returned (.bool (avIs kind t)) ∧ Upd [] w w' := by
  obtain ⟨mu, hi, ve, k, s⟩ := t
  simp only [Av.agg, avIs]
  have hc := ((Upd.refl [] w).alloc (Obj.cells #[Value.bool mu, Value.bool hi, Value.int IntKind.i64 ve, Value.int IntKind.i64 k, Value.string s] 85)).cell (p := ⟨g, 0, none⟩) (cell_lt' hg) (by simp)
  rw [hg] at hc
  have hlt := cell_lt' hg
  simp only at hlt
  cases hb : (ve == 0)
  all_goals
    simp only [Bool.true_and, Bool.false_and]
    go_enter Tryz.func240, Tryz.ntmps240
    go_wp2_with fail
    go_ret
    exact ⟨rfl, (Upd.refl _ _).alloc _⟩

set_option maxHeartbeats 1000000 in
theorem avFind_any (l : List Av) (v : Value) (kind : Int) (w : World) (hl : AvsAt w v l) :
    Calls Tryz.prog 93 #[v, .int .i64 kind] w fun e w' => e = .returned (.tuple #[.string (findAv kind l).1, .bool (findAv kind l).2]) ∧ Upd [] w w' := by
  obtain ⟨ao, cap, rfl, h1, h2, -⟩ := id hl
  obtain ⟨n, hn⟩ : ∃ n, n = l.length := ⟨_, rfl⟩
  rw [← hn] at h1
  rw [← hn]
  have HL := Lib.hid hl
  have HN := Lib.hid hn
  simp only [maxLen] at h2
  clear hl hn
  have A0 := Blk.new w 3 #[Value.int IntKind.i64 kind]
  have U0 := Lib.hid ((Upd.refl [] w).alloc (Obj.cells #[Value.int IntKind.i64 kind] 3))
  have HA : Hid (∀ W, Upd [] (w.alloc (Obj.cells #[Value.int IntKind.i64 kind] 3)) W → W.cell? ⟨w.heap.size, 0, none⟩ = some (.int .i64 kind)) := fun W hu => (A0.upd hu (by simp)).cell 0
  clear A0
  have HS := Lib.hid (ixa_spec (avIs kind) l 0)
  go_enter Tryz.func93, Tryz.ntmps93
  go_wp2_with fail
  refine (indexAv_any 240 _ (avIs kind) l _ _ ((by rw [HN.out]; exact HL.out : AvsAt w (.slice ao n cap) l).upd U0.out) (fun _ _ => by kernel_rfl) (fun t ht W hu => avFind1_any kind t _ W (HA.out W hu))).mono ?_
  rintro e w1 ⟨rfl, hu⟩
  have HU := Lib.hid (U0.out.trans hu)
  clear hu
  rcases HS.out with ⟨h1, h2⟩ | ⟨i, t, h1, h2, h3⟩
  · rw [h1]
    have HF : Hid (findAv kind l = (⟨#[]⟩, false)) := by show _ = _; rw [findAv, h2]
    clear h1 h2
    go_wp2_with fail
    go_ret2
    rw [HF.out]
    exact ⟨rfl, HU.out⟩
  · rw [h1, Nat.zero_add]
    have HF : Hid (findAv kind l = (t.val, true)) := by show _ = _; rw [findAv, h3]
    have hil : i < n := by rw [HN.out]; exact (List.getElem?_eq_some_iff.1 h2).1
    obtain ⟨ao', cap', e0, _, _, h4⟩ := HL.out.upd HU.out
    injection e0 with e0 _ e2
    subst e0 e2
    obtain ⟨q, rfl, c0, c1, c2, c3, c4⟩ := h4 i t h2
    clear h4 h1 h2 h3
    go_wp2_with fail
    go_ret2
    rw [HF.out]
    exact ⟨rfl, HU.out⟩

end Go.Proofs.YtglafpdealjlnaaGreat
namespace Go.Proofs.YtglafpdealjlnaaGreat
open Go.RowKit
set_option linter.unusedSimpArgs false
set_option maxRecDepth 100000
set_option linter.unusedVariables false

set_option maxHeartbeats 400000 in
theorem avpIn_any (n a b : Int) (w : World) :
    Calls Tryz.prog 225 #[.int .i64 n, .int .i64 a, .int .i64 b] w fun e w' => e = .returned (.bool (decide (a ≤ n) && decide (n ≤ b))) ∧ w = w' := by
  go_enter Tryz.func225, Tryz.ntmps225
  go_wp2
  all_goals
    go_ret
    refine ⟨?_, rfl⟩
    simp_all
    try omega

def numAv (kind v : Int) (n : Nat) : Av := ⟨true, false, 0, kind, be n v⟩
set_option maxHeartbeats 2000000 in
theorem num_ok (kind v : Int) (n : Nat) (hn : 1 ≤ n ∧ n ≤ 8) (w : World) :
    Calls Tryz.prog 79 #[.int .i64 kind, .int .i64 v, .int .i64 n] w fun e w' => e = .returned (numAv kind v n).agg ∧ Upd [] w w' := by
  have info5 : (Tryz.prog.info? 5).map (fun i => (i.zero, i.size, i.bytes)) = some (some (.int .u8 0), 1, 1) := by kernel_rfl
  have hmk := run_make_row' (P := Tryz.prog) 151 5 (.int .u8 0) 1 Tryz.underlying151 info5 rfl .i64 .i64 n (by omega) (by omega)
  simp only [Av.agg, numAv]
  have hin : (decide (1 ≤ (n : Int)) && decide ((n : Int) ≤ 8)) = true := by simp; omega
  go_enter Tryz.func79, Tryz.ntmps79
  go_wp2_with fail
  refine (avpIn_any _ _ _ _).mono ?_
  rintro e w' ⟨rfl, rfl⟩
  go_wp2
  go_loopg [20] n (fun m s20 wr => ∃ k : Nat, k + m = n ∧ s20 = .int .i64 k ∧ Upd [] w wr ∧ Blk wr w.heap.size 85 #[.bool false, .bool false, .int .i64 0, .int .i64 0, .string ⟨#[]⟩] ∧
    Blk wr (w.heap.size + 1) 85 #[.bool true, .bool false, .int .i64 0, .int .i64 kind, .string ⟨#[]⟩] ∧ wr.rowIs (w.heap.size + 2) 5 n (fun j => .int .u8 (if n ≤ j + k then byteAt v n j else 0)))
  case atStart =>
    refine ⟨0, by omega, rfl, (((Upd.refl _ _).alloc _).alloc _).alloc _, ((Blk.new _ _ _).alloc _).alloc _, ?_, ?_⟩
    · have h := (Blk.new (w.alloc (Obj.cells #[Value.bool false, Value.bool false, Value.int IntKind.i64 0, Value.int IntKind.i64 0, Value.string ⟨#[]⟩] 85)) 85 #[.bool true, .bool false, .int .i64 0, .int .i64 kind, .string ⟨#[]⟩])
      have hz : (w.alloc (Obj.cells #[Value.bool false, Value.bool false, Value.int IntKind.i64 0, Value.int IntKind.i64 0, Value.string ⟨#[]⟩] 85)).heap.size = w.heap.size + 1 := by simp
      rw [hz] at h
      exact h.alloc _
    · have h := World.rowIs_made ((w.alloc (Obj.cells #[Value.bool false, Value.bool false, Value.int IntKind.i64 0, Value.int IntKind.i64 0, Value.string ⟨#[]⟩] 85)).alloc (Obj.cells #[.bool true, .bool false, .int .i64 0, .int .i64 kind, .string ⟨#[]⟩] 85)) (.int .u8 0) n 5
      have hz : ((w.alloc (Obj.cells #[Value.bool false, Value.bool false, Value.int IntKind.i64 0, Value.int IntKind.i64 0, Value.string ⟨#[]⟩] 85)).alloc (Obj.cells #[.bool true, .bool false, .int .i64 0, .int .i64 kind, .string ⟨#[]⟩] 85)).heap.size = w.heap.size + 2 := by simp
      rw [hz] at h
      refine h.congr fun j hj => ?_
      rw [if_neg (by omega)]
  case round =>
    obtain ⟨k, hk, rfl, hu, b0, b1, hr⟩ := hrel
    by_cases t : k < n
    · have hf := hr.frozen (n - 1 - k)
      have hc := hr.cell (i := n - 1 - k) (by omega)
      have HX := Lib.hid (And.intro hu (And.intro b0 (And.intro b1 hr)))
      clear hu b0 b1 hr
      go_wp2
      go_roundg (n - (k + 1))
      case rel =>
        obtain ⟨hu, b0, b1, hr⟩ := HX.out
        refine ⟨k + 1, by omega, by go_num, hu.setCell _ (.inr (by show w.heap.size ≤ w.heap.size + 1 + 1; omega)), b0.far _ (by show w.heap.size ≠ w.heap.size + 1 + 1; omega), b1.far _ (by show w.heap.size + 1 ≠ w.heap.size + 1 + 1; omega), ?_⟩
        refine (hr.set _ _).congr fun j hj => ?_
        by_cases hjk : j = n - 1 - k
        · subst hjk
          rw [if_pos rfl, if_pos (by omega), byteAt, show n - 1 - (n - 1 - k) = k by omega]
        · rw [if_neg hjk]
          by_cases h2 : n ≤ j + k
          · rw [if_pos h2, if_pos (by omega)]
          · rw [if_neg h2, if_neg (by omega)]
      case measure => omega
    · obtain rfl : k = n := by omega
      have hcv := run_convert_bytes_arg (P := Tryz.prog) wr 151 5 Tryz.underlying151 Tryz.underlying5 (w.heap.size + 1 + 1) 0 k k ((List.range k).map (byteAt v k)) (by simp) (fun i hi => by rw [Nat.zero_add]; exact (hr.cell hi).trans (by simp [hi])) 9 Tryz.underlying9
      have hb : strOfNums ((List.range k).map (byteAt v k)) = be k v := rfl
      rw [hb] at hcv
      have HX := Lib.hid (And.intro hu (And.intro b0 b1))
      have s0 := b0.cell 0
      have s1 := b0.cell 1
      have s2 := b0.cell 2
      have s3 := b0.cell 3
      have s4 := b0.cell 4
      have u0 := b0.frozen 0
      have u1 := b0.frozen 1
      have u2 := b0.frozen 2
      have u3 := b0.frozen 3
      have u4 := b0.frozen 4
      have r0 := b1.cell 0
      have r1 := b1.cell 1
      have r2 := b1.cell 2
      have r3 := b1.cell 3
      have r4 := b1.cell 4
      have y4 := b1.frozen 4
      simp at s0 s1 s2 s3 s4 r0 r1 r2 r3 r4
      clear hu b0 b1 hr hb
      go_wp2
      obtain ⟨hu, b0, b1⟩ := HX.out
      have RR := (((((b0.far (p := ⟨w.heap.size + 1, 4, none⟩) (.string (be k v)) (by show w.heap.size ≠ w.heap.size + 1; omega)).set_ 0 (.bool true)).set_ 1 (.bool false)).set_ 2 (.int .i64 0)).set_ 3 (.int .i64 kind)).set_ 4 (.string (be k v))
      have q0 := RR.cell 0
      have q1 := RR.cell 1
      have q2 := RR.cell 2
      have q3 := RR.cell 3
      have q4 := RR.cell 4
      simp at q0 q1 q2 q3 q4
      exact bodyPost_ret (v := .agg #[.bool true, .bool false, .int .i64 0, .int .i64 kind, .string (be k v)]) (by simp [results, Tryz.results79, go_sem, q0, q1, q2, q3, q4]) rfl ⟨rfl, (((((hu.setCell _ (.inr (Nat.le_succ _))).setCell _ (.inr (Nat.le_refl _))).setCell _ (.inr (Nat.le_refl _))).setCell _ (.inr (Nat.le_refl _))).setCell _ (.inr (Nat.le_refl _))).setCell _ (.inr (Nat.le_refl _))⟩
end Go.Proofs.YtglafpdealjlnaaGreat
namespace Go.Proofs.YtglafpdealjlnaaGreat
open Go.RowKit
set_option maxRecDepth 100000
set_option linter.unusedSimpArgs false
set_option linter.unusedVariables false

theorem or_low7 (a x : Int) (h : 0 ≤ a ∧ a < 281474976710656 ∧ 0 ≤ x ∧ x < 256) : bits .or .i64 (wrap64 (a * 256)) (wrap64 x) = a * 256 + x := by
  obtain ⟨m, rfl⟩ := Int.eq_ofNat_of_zero_le h.1
  obtain ⟨y, rfl⟩ := Int.eq_ofNat_of_zero_le h.2.2.1
  rw [IntWalk.wrap64_in _ (by omega), IntWalk.wrap64_in _ (by omega)]
  have h1 : (BitVec.ofInt 64 ((m : Int) * 256)).toNat = m * 256 := by
    rw [BitVec.toNat_ofInt]
    omega
  have h2 : (BitVec.ofInt 64 (y : Int)).toNat = y := by
    rw [BitVec.toNat_ofInt]
    omega
  show IntKind.i64.wrap ((BitVec.ofInt 64 ((m : Int) * 256) ||| BitVec.ofInt 64 (y : Int)).toNat : Nat) = _
  rw [BitVec.toNat_or, h1, h2, show m * 256 = 2 ^ 8 * m by omega, ← Nat.two_pow_add_eq_or_of_lt (by omega)]
  rw [IntWalk.i64_in _ (by omega)]
  omega

def valueB (s : ByteArray) : Int × Bool := if 7 < s.size then (0, false) else (num s 0 s.size, true)
set_option maxHeartbeats 1000000 in
theorem value_any (s : ByteArray) (hs : s.size ≤ maxLen) (w : World) :
    Calls Tryz.prog 329 #[.string s] w fun e w' => e = .returned (.tuple #[.int .i64 (valueB s).1, .bool (valueB s).2]) ∧ w = w' := by
  simp only [maxLen] at hs
  by_cases t1 : 7 < s.size
  · have HQ : Hid (valueB s = (0, false)) := if_pos t1
    rw [HQ.out]
    go_enter Tryz.func329, Tryz.ntmps329
    go_wp2
    go_ret2
    exact ⟨rfl, rfl⟩
  · have HQ : Hid (valueB s = (num s 0 s.size, true)) := if_neg t1
    rw [HQ.out]
    have t1' : ¬ (7 : Int) < s.size := by omega
    clear HQ
    obtain ⟨n, hn⟩ : ∃ n, n = s.size := ⟨_, rfl⟩
    have HN := Lib.hid hn
    clear hn
    go_enter Tryz.func329, Tryz.ntmps329
    go_wp2
    go_loopg [4, 11] s.size (fun m s4 s11 wr => wr = w ∧ ∃ k : Nat, k + m = s.size ∧ s11 = .int .i64 k ∧ s4 = .int .i64 (num s 0 k))
    case atStart => exact ⟨rfl, 0, by omega, rfl, rfl⟩
    case round =>
      obtain ⟨rfl, k, hk, rfl, rfl⟩ := hrel
      by_cases t : k < s.size
      · have hE : Hid (bits .or .i64 (wrap64 (num s 0 k * 256)) (wrap64 (s[k].toNat : Int)) = num s 0 (k + 1)) := by
          have h1 := num_bd s 0 k
          have h2 := byte_bd s k
          have h3 : (256 : Int) ^ k ≤ 256 ^ 6 := by
            have h4 : k = 0 ∨ k = 1 ∨ k = 2 ∨ k = 3 ∨ k = 4 ∨ k = 5 ∨ k = 6 := by omega
            rcases h4 with h4 | h4 | h4 | h4 | h4 | h4 | h4 <;> rw [h4] <;> decide
          show _ = _
          rw [← byte_get s k (by omega)] at h2
          rw [or_low7 _ _ (by omega), byte_get s k (by omega), num, Nat.zero_add]
        go_wp2
        go_roundg (s.size - (k + 1))
        case rel => exact ⟨rfl, k + 1, by omega, by go_num, by rw [hE.out]⟩
        case measure => omega
      · obtain rfl : k = s.size := by omega
        go_wp2
        go_ret2
        exact ⟨rfl, rfl⟩
end Go.Proofs.YtglafpdealjlnaaGreat
namespace Go.Proofs.YtglafpdealjlnaaGreat
open Go.RowKit
set_option maxRecDepth 100000
set_option linter.unusedSimpArgs false
set_option linter.unusedVariables false

def numberAv (l : List Av) (kind : Int) : Int × Bool := if (findAv kind l).2 = false ∨ (findAv kind l).1.size = 0 then (0, false) else valueB (findAv kind l).1
theorem findAv_size (kind : Int) (l : List Av) (m : Nat) (h : ∀ t ∈ l, t.val.size ≤ m) : (findAv kind l).1.size ≤ m := by
  unfold findAv
  cases hf : l.find? (avIs kind) with
  | none => exact Nat.zero_le _
  | some t => exact h t (List.mem_of_find?_eq_some hf)
set_option maxHeartbeats 1000000 in
theorem number_any (l : List Av) (v : Value) (kind : Int) (w : World) (hl : AvsAt w v l) (hs : ∀ t ∈ l, t.val.size ≤ maxLen) :
    Calls Tryz.prog 312 #[v, .int .i64 kind] w fun e w' => e = .returned (.tuple #[.int .i64 (numberAv l kind).1, .bool (numberAv l kind).2]) ∧ Upd [] w w' := by
  have HL := Lib.hid hl
  have HS := Lib.hid (findAv_size kind l _ hs)
  clear hl hs
  obtain ⟨s, b, hf⟩ : ∃ s b, findAv kind l = (s, b) := ⟨_, _, rfl⟩
  have HQ : Hid (numberAv l kind = if b = false ∨ s.size = 0 then (0, false) else valueB s) := by show _ = _; rw [numberAv, hf]
  rw [HQ.out]
  rw [hf] at HS
  have HF := Lib.hid hf
  clear hf HQ
  cases b
  · rw [if_pos (.inl rfl)]
    go_enter Tryz.func312, Tryz.ntmps312
    go_wp2_with fail
    refine (avFind_any l v kind _ HL.out).mono ?_
    rintro e w1 ⟨rfl, hu⟩
    rw [HF.out]
    go_wp2_with fail
    go_ret2
    exact ⟨rfl, hu⟩
  · by_cases t : s.size = 0
    · rw [if_pos (.inr t)]
      have e0 := str_empty_t t
      have T := Lib.hid t
      clear t
      go_enter Tryz.func312, Tryz.ntmps312
      go_wp2_with fail
      refine (avFind_any l v kind _ HL.out).mono ?_
      rintro e w1 ⟨rfl, hu⟩
      rw [HF.out]
      go_wp2_with fail
      go_ret2
      exact ⟨rfl, hu⟩
    · rw [if_neg (by simp [t])]
      have e0 := str_empty_f t
      clear t
      go_enter Tryz.func312, Tryz.ntmps312
      go_wp2_with fail
      refine (avFind_any l v kind _ HL.out).mono ?_
      rintro e w1 ⟨rfl, hu⟩
      rw [HF.out]
      go_wp2_with fail
      refine (value_any s HS.out _).mono ?_
      rintro e w2 ⟨rfl, rfl⟩
      go_wp2_with fail
      go_ret2
      exact ⟨rfl, hu⟩

end Go.Proofs.YtglafpdealjlnaaGreat
