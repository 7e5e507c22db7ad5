/- Regions that draw their order, with what holds until an operation has come up. No program in sight. -/
import Derived.Test.YtcplhlokbnaabaaRely
namespace Go.Proofs.Ytcplhlokbnaabaa
open Go.RowKit

section
variable {P : Program} {ops : Array Oper} {Q : Exit → Act → World → Prop}

structure RelyN (ops : Array Oper) (a0 : Act) (D : Nat → Value → World → Prop) (I : World → Prop) (N : Nat → World → Prop) (l : Array Bool) (a : Act) (w : World) : Prop where
  inv : I w
  defs : a.defers = a0.defers
  size : a.tmps.size = a0.tmps.size
  off : ∀ t, (∀ j o, ops[j]? = some o → l.getD j false = true → o.dst ≠ some t) → a.eval (.tmp t) = a0.eval (.tmp t)
  on : ∀ j, l.getD j false = true → D j (leftAt ops a j) w
  closed : ∀ j o, ops[j]? = some o → l.getD j false = true → ∀ e ∈ o.after, Region.binds .any e = true → l.getD e.on false = true
  nyet : ∀ j, j < ops.size → l.getD j false = false → N j w

/-- What one operation must do. -/
def StepToN (P : Program) (ops : Array Oper) (Q : Exit → Act → World → Prop) (a0 : Act) (D : Nat → Value → World → Prop) (I : World → Prop) (N : Nat → World → Prop) (R : Nat → World → World → Prop) (i : Nat) (o : Oper) : Prop :=
  ∀ a w, I w → N i w → (∀ t, freeAt ops i t = true → a.eval (.tmp t) = a0.eval (.tmp t)) → (∀ e ∈ o.after, Region.binds .any e = true → D e.on (leftAt ops a e.on) w) →
    if Region.wanted o (yielded ops a.tmps) = true then o.wp P a w (fun a' w' => ∃ v, a' = a.put o.dst v ∧ I w' ∧ R i w w' ∧ D i (if o.dst = none then undef else v) w') Q else D i undef w
def StepsN (P : Program) (ops : Array Oper) (Q : Exit → Act → World → Prop) (a0 : Act) (D : Nat → Value → World → Prop) (I : World → Prop) (N : Nat → World → Prop) (R : Nat → World → World → Prop) : Nat → List Oper → Prop
  | _, [] => True
  | i, o :: r => StepToN P ops Q a0 D I N R i o ∧ StepsN P ops Q a0 D I N R (i + 1) r
theorem StepsN.get {a0 : Act} {D : Nat → Value → World → Prop} {I : World → Prop} {N : Nat → World → Prop} {R : Nat → World → World → Prop} : ∀ (l : List Oper) (n : Nat), StepsN P ops Q a0 D I N R n l → ∀ i o, l[i]? = some o → StepToN P ops Q a0 D I N R (n + i) o
  | [], _, _, _, _, h => by simp at h
  | p :: r, n, hs, 0, o, h => by simp at h; subst h; exact hs.1
  | p :: r, n, hs, i + 1, o, h => by
    have := StepsN.get r (n + 1) hs.2 i o (by simpa using h)
    rwa [show n + (i + 1) = n + 1 + i by omega]

theorem wp_region_relyN {id : Nat} {a0 : Act} {w0 : World} (D : Nat → Value → World → Prop) (I : World → Prop) (N : Nat → World → Prop) (R : Nat → World → World → Prop)
    (hm : P.follows .mixedOrders = true) (ht : tidy ops = true) (hin : (ops.all fun o => match o.dst with | some d => decide (d < a0.tmps.size) | none => true) = true)
    (late : List (Nat × Nat)) (hlate : (late.all fun p => (behind p.1 ops.toList []).getD p.2 false) = true)
    (hst : ∀ i j v w w', j ≠ i → (i, j) ∉ late → D j v w → R i w w' → D j v w') (hN : ∀ i j w w', j ≠ i → (j, i) ∉ late → N j w → R i w w' → N j w') (hN0 : ∀ j, N j w0.drew) (h0 : I w0.drew)
    (hs : StepsN P ops Q a0 D I N R 0 ops.toList)
    (hend : ∀ vals w, I w → (∀ i, i < ops.size → D i (vals i) w) → Q .normal (putAll vals 0 ops.toList a0) w) : (Code.region id ops true).wp P Q a0 w0 := by
  refine wp_region_any hm (wpAny_held (RelyN ops a0 D I N) ?_ ?_ ops.size _ a0 _ (by simp) (by simp) ?_)
  · intro l a w i hls hi hg
    obtain ⟨hun, o, ho, hall⟩ := mem_ready.1 hi
    have hisz : i < ops.size := (Array.getElem?_eq_some_iff.1 ho).1
    have hun' : l.getD i false = false := by
      have : i < l.size := by omega
      simpa [this] using hun
    have hstep : StepToN P ops Q a0 D I N R i o := by
      have := StepsN.get (P := P) (Q := Q) ops.toList 0 hs i o (by simpa using ho)
      rwa [Nat.zero_add] at this
    have h1 := hstep a w hg.inv (hg.nyet i hisz hun') (fun t hf => hg.off t fun j p hp hlj hd => by
      have hj : j < ops.size := (Array.getElem?_eq_some_iff.1 hp).1
      have := List.all_eq_true.1 hf j (by simpa using hj)
      simp only [hp, hd, Bool.or_eq_true, beq_iff_eq, bne_self_eq_false, Bool.false_eq_true, false_or] at this
      rcases this with rfl | hb
      · rw [hun'] at hlj; cases hlj
      · rw [behind_not hun' ops.toList [] [] rfl (fun j o ho => hg.closed j o (by simpa using ho)) (by simp) j (by simpa using hb)] at hlj; cases hlj)
      (fun e he hb => hg.on e.on (hall e he hb))
    have hsame : ∀ v j, j ≠ i → l.getD j false = true → leftAt ops (a.put o.dst v) j = leftAt ops a j := by
      intro v j hji hlj
      unfold leftAt
      cases hp : ops[j]? with
      | none => rfl
      | some p =>
        cases hd : p.dst with
        | none => simp [hd]
        | some d =>
          simp only [Option.bind_some, hd]
          cases hd' : o.dst with
          | none => rfl
          | some d' => exact eval_put_ne (fun e => hji (tidy_dst ht hp ho hd (by rw [hd', e])))
    have hself : ∀ v, leftAt ops (a.put o.dst v) i = if o.dst = none then undef else v := by
      intro v
      unfold leftAt
      simp only [ho, Option.bind_some]
      cases hd : o.dst with
      | none => simp
      | some d =>
        have := (Array.all_eq_true_iff_forall_mem.1 hin) o (Array.mem_of_getElem? ho)
        simp only [hd, decide_eq_true_eq] at this
        simp only [reduceCtorEq, if_false]
        exact eval_put_self (by rw [hg.size]; exact this)
    have hset : ∀ j, (l.setIfInBounds i true).getD j false = true → j = i ∨ l.getD j false = true := by
      intro j hj
      by_cases hji : j = i
      · exact .inl hji
      · right; simpa [Array.getElem?_setIfInBounds, Ne.symm hji] using hj
    have hclosed' : ∀ j p, ops[j]? = some p → (l.setIfInBounds i true).getD j false = true → ∀ e ∈ p.after, Region.binds .any e = true → (l.setIfInBounds i true).getD e.on false = true := by
      intro j p hp hj e he hb
      have hmono : ∀ k, l.getD k false = true → (l.setIfInBounds i true).getD k false = true := by
        intro k hk
        by_cases hki : k = i
        · subst hki; rw [hun'] at hk; cases hk
        · simpa [Array.getElem?_setIfInBounds, Ne.symm hki] using hk
      rcases hset j hj with rfl | hlj
      · rw [ho] at hp; injection hp with hp; subst hp
        exact hmono _ (hall e he hb)
      · exact hmono _ (hg.closed j p hp hlj e he hb)
    have hjun : ∀ j, j < ops.size → (l.setIfInBounds i true).getD j false = false → j ≠ i ∧ l.getD j false = false ∧ (j, i) ∉ late := by
      intro j hj hlj
      have hji : j ≠ i := by
        rintro rfl
        have : j < l.size := by omega
        simp [this] at hlj
      have hlj' : l.getD j false = false := by simpa [Array.getElem?_setIfInBounds, Ne.symm hji] using hlj
      refine ⟨hji, hlj', fun hmem => ?_⟩
      have hb := List.all_eq_true.1 hlate (j, i) hmem
      have := behind_not hlj ops.toList [] [] rfl (fun j o ho => hclosed' j o (by simpa using ho)) (by simp) i hb
      have hi2 : i < l.size := by omega
      simp [hi2] at this
    have hnext : ∀ v w', I w' → R i w w' → D i (if o.dst = none then undef else v) w' → RelyN ops a0 D I N (l.setIfInBounds i true) (a.put o.dst v) w' := by
      intro v w' hI hR hD
      refine ⟨hI, defers_put.trans hg.defs, size_put.trans hg.size, ?_, ?_, hclosed', fun j hj hlj => hN i j _ _ (hjun j hj hlj).1 (hjun j hj hlj).2.2 (hg.nyet j hj (hjun j hj hlj).2.1) hR⟩
      · intro t hno
        have hne : o.dst ≠ some t := hno i o ho (by have : i < l.size := by omega
                                                    simp [this])
        have h2 : (a.put o.dst v).eval (.tmp t) = a.eval (.tmp t) := by
          cases hd : o.dst with
          | none => rfl
          | some d => exact eval_put_ne (fun e => hne (by rw [hd, e]))
        rw [h2]
        refine hg.off t fun j p hp hlj => hno j p hp ?_
        by_cases hji : j = i
        · subst hji; have : j < l.size := by omega
          simp [this]
        · simpa [Array.getElem?_setIfInBounds, Ne.symm hji] using hlj
      · intro j hj
        by_cases hji : j = i
        · subst hji; rw [hself]; exact hD
        · have hlj := (hset j hj).resolve_left hji
          rw [hsame v j hji hlj]
          refine hst i j _ _ _ hji (fun hmem => ?_) (hg.on j hlj) hR
          have hb := List.all_eq_true.1 hlate (i, j) hmem
          rw [behind_not hun' ops.toList [] [] rfl (fun j o ho => hg.closed j o (by simpa using ho)) (by simp) j hb] at hlj
          cases hlj
    have hskip : D i undef w → RelyN ops a0 D I N (l.setIfInBounds i true) (a.put o.dst undef) w := by
      intro hD
      refine ⟨hg.inv, defers_put.trans hg.defs, size_put.trans hg.size, ?_, ?_, hclosed', fun j hj hlj => hg.nyet j hj (hjun j hj hlj).2.1⟩
      · intro t hno
        have hne : o.dst ≠ some t := hno i o ho (by have : i < l.size := by omega
                                                    simp [this])
        have h2 : (a.put o.dst undef).eval (.tmp t) = a.eval (.tmp t) := by
          cases hd : o.dst with
          | none => rfl
          | some d => exact eval_put_ne (fun e => hne (by rw [hd, e]))
        rw [h2]
        refine hg.off t fun j p hp hlj => hno j p hp ?_
        by_cases hji : j = i
        · subst hji; have : j < l.size := by omega
          simp [this]
        · simpa [Array.getElem?_setIfInBounds, Ne.symm hji] using hlj
      · intro j hj
        by_cases hji : j = i
        · subst hji; rw [hself]; simpa using hD
        · have hlj := (hset j hj).resolve_left hji
          rw [hsame undef j hji hlj]
          exact hg.on j hlj
    unfold wpOp
    simp only [ho]
    split
    · rename_i hw
      rw [if_pos hw] at h1
      refine .inl (Oper.wp_mono ?_ h1)
      rintro a' w' ⟨v, rfl, hI, hR, hD⟩
      exact hnext v w' hI hR hD
    · rename_i hw
      rw [if_neg hw] at h1
      exact hskip h1
  · intro l a w hls hr hg
    have hall : ∀ j, j < ops.size → l.getD j false = true := by
      intro j
      induction j using Nat.strongRecOn with
      | ind j ih =>
        intro hj
        cases hlj : l.getD j false with
        | true => rfl
        | false =>
          exfalso
          have : j ∈ Region.ready .any ops l := mem_ready.2 ⟨(by
            have : j < l.size := by omega
            simpa [this] using hlj), ops[j], by simp [hj], fun e he hb => by
            have hlt := tidy_edge ht (i := j) (o := ops[j]) (by simp [hj]) e he hb
            exact ih e.on hlt (by omega)⟩
          rw [hr] at this
          cases this
    have := hend (fun i => leftAt ops a i) w hg.inv (fun i hi => hg.on i (hall i hi))
    have e : putAll (fun i => leftAt ops a i) 0 ops.toList a0 = a := by
      have hsz := putAll_size (fun i => leftAt ops a i) ops.toList 0 a0
      have key : ∀ t, t < a0.tmps.size → (putAll (fun i => leftAt ops a i) 0 ops.toList a0).eval (.tmp t) = a.eval (.tmp t) := by
        intro t htl
        by_cases hex : ∃ (i : Nat) (o : Oper), ops[i]? = some o ∧ o.dst = some t
        · obtain ⟨i, o, ho, hd⟩ := hex
          rw [putAll_on _ t ops.toList 0 a0 i o (by simpa using ho) hd (fun j p hp hpd => tidy_dst ht (by simpa using hp) ho hpd hd) htl, Nat.zero_add]
          simp [leftAt, ho, hd]
        · rw [putAll_off _ t ops.toList 0 a0 (fun o ho hd => by
            obtain ⟨i, hi⟩ := List.mem_iff_getElem?.1 ho
            exact hex ⟨i, o, by simpa using hi, hd⟩)]
          exact (hg.off t fun j p hp _ hpd => hex ⟨j, p, hp, hpd⟩).symm
      generalize putAll (fun i => leftAt ops a i) 0 ops.toList a0 = b at *
      obtain ⟨bt, bd⟩ := b
      obtain ⟨at_, ad⟩ := a
      have h1 : bt = at_ := by
        apply Array.ext
        · exact hsz.1.trans hg.size.symm
        · intro t h1 h2
          have h3 := key t (by rw [← hsz.1]; exact h1)
          simpa [Act.eval, h1, h2] using h3
      have h2 : bd = ad := hsz.2.trans hg.defs.symm
      rw [h1, h2]
    rwa [e] at this
  · exact ⟨h0, rfl, rfl, fun _ _ => rfl, fun j hj => by
      exfalso
      rw [Array.getD_eq_getD_getElem?, Array.getElem?_replicate] at hj
      split at hj <;> simp at hj, fun j o ho hj => by
      exfalso
      rw [Array.getD_eq_getD_getElem?, Array.getElem?_replicate] at hj
      split at hj <;> simp at hj, fun j _ _ => hN0 j⟩
end
end Go.Proofs.Ytcplhlokbnaabaa
