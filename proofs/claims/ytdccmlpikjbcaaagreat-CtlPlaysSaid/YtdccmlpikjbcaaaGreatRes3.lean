/- Regions by several resources: the steps, one lemma each. No program in sight. -/
import Derived.Test.YtdccmlpikjbcaaaGreatRes
namespace Go.Proofs.YtdccmlpikjbcaaaGreat
open Go.RowKit
set_option linter.unusedSimpArgs false
set_option linter.unusedVariables false
section
variable {P : Program} {ops : Array Oper} {Q : Exit → Act → World → Prop} {a0 : Act} {V : Nat → Value → Prop} {rs : List Res} {i : Nat} {o : Oper} {bs : List (Nat × Nat)}
theorem allPost_none {a : Act} {w : World} {ks : Nat → Nat} {i : Nat} {v : Value} : ∀ (rs : List Res) (bs : List (Nat × Nat)) (n : Nat), (rs.all fun r => !r.chain.contains i) = true → AllAt ops a w ks n rs bs → AllPost ops a w ks i v n rs
  | [], _, _, _, _ => trivial
  | r :: rs, [], _, _, h => h.elim
  | r :: rs, b :: bs, n, hn, h => by
    simp only [List.all_cons, Bool.and_eq_true, Bool.not_eq_true'] at hn
    refine ⟨?_, allPost_none rs bs (n + 1) hn.2 h.2⟩
    rw [hn.1]
    simpa using h.1.2.2
theorem StepsR.cons {l : List Oper} {bss : List (List (Nat × Nat))} (h : StepR P ops Q a0 V rs i o bs) (t : StepsR P ops Q a0 V rs (i + 1) l bss) : StepsR P ops Q a0 V rs i (o :: l) (bs :: bss) := ⟨h, t⟩
theorem StepsR.nil {bss : List (List (Nat × Nat))} : StepsR P ops Q a0 V rs i [] bss := by unfold StepsR; cases bss <;> trivial
theorem res_is (x : Value) (hg : o.guard = none) (hd : ∃ d, o.dst = some d) (hnc : (rs.all fun r => !r.chain.contains i) = true) (hv : V i x)
    (h : ∀ a w ks, AllAt ops a w ks 0 rs bs → (∀ t, freeAt ops i t = true → a.eval (.tmp t) = a0.eval (.tmp t)) → (∀ e ∈ o.after, Region.binds .any e = true → V e.on (leftAt ops a e.on)) →
      (execOp a.eval o).run P w = .ok (.value x) w) : StepR P ops Q a0 V rs i o bs := by
  intro a w ks hR hF hD
  refine ⟨by simp [Region.wanted, hg], ?_⟩
  obtain ⟨d, hd⟩ := hd
  unfold Oper.wp
  rw [h a w ks hR hF hD]
  exact ⟨x, rfl, by rw [hd]; simpa using hv, allPost_none rs bs 0 hnc hR⟩
theorem res_run (hg : o.guard = none) (hd : ∃ d, o.dst = some d)
    (h : ∀ a w ks, AllAt ops a w ks 0 rs bs → (∀ t, freeAt ops i t = true → a.eval (.tmp t) = a0.eval (.tmp t)) → (∀ e ∈ o.after, Region.binds .any e = true → V e.on (leftAt ops a e.on)) →
      ∃ x w', (execOp a.eval o).run P w = .ok (.value x) w' ∧ V i x ∧ AllPost ops a w' ks i x 0 rs) : StepR P ops Q a0 V rs i o bs := by
  intro a w ks hR hF hD
  refine ⟨by simp [Region.wanted, hg], ?_⟩
  obtain ⟨d, hd⟩ := hd
  obtain ⟨x, w', r1, r2, r3⟩ := h a w ks hR hF hD
  unfold Oper.wp
  rw [r1]
  exact ⟨x, rfl, by rw [hd]; simpa using r2, by rw [hd]; simpa using r3⟩
theorem res_set (hg : o.guard = none) (hd : o.dst = none) (hv : V i undef)
    (h : ∀ a w ks, AllAt ops a w ks 0 rs bs → (∀ t, freeAt ops i t = true → a.eval (.tmp t) = a0.eval (.tmp t)) → (∀ e ∈ o.after, Region.binds .any e = true → V e.on (leftAt ops a e.on)) →
      ∃ w', (execOp a.eval o).run P w = .ok .skip w' ∧ AllPost ops a w' ks i undef 0 rs) : StepR P ops Q a0 V rs i o bs := by
  intro a w ks hR hF hD
  refine ⟨by simp [Region.wanted, hg], ?_⟩
  obtain ⟨w', r1, r3⟩ := h a w ks hR hF hD
  unfold Oper.wp
  rw [r1]
  exact ⟨undef, rfl, by rw [hd]; simpa using hv, by rw [hd]; simpa using r3⟩
theorem res_call (hg : o.guard = none) (hd : ∃ d, o.dst = some d)
    (h : ∀ a w ks, AllAt ops a w ks 0 rs bs → (∀ t, freeAt ops i t = true → a.eval (.tmp t) = a0.eval (.tmp t)) → (∀ e ∈ o.after, Region.binds .any e = true → V e.on (leftAt ops a e.on)) →
      ∃ f args, (execOp a.eval o).run P w = .ok (.enter f args) w ∧ Calls P f args w fun e w' => ∃ x, e = .returned x ∧ V i x ∧ AllPost ops a w' ks i x 0 rs) : StepR P ops Q a0 V rs i o bs := by
  intro a w ks hR hF hD
  refine ⟨by simp [Region.wanted, hg], ?_⟩
  obtain ⟨d, hd⟩ := hd
  obtain ⟨f, args, r1, r2⟩ := h a w ks hR hF hD
  unfold Oper.wp
  rw [r1]
  refine Calls.mono r2 ?_
  rintro e w' ⟨x, rfl, r3, r4⟩
  exact ⟨x, rfl, by rw [hd]; simpa using r3, by rw [hd]; simpa using r4⟩
theorem next_post {A : List Value → World → Prop} {c : List Nat} {f : Nat → Value} {k n : Nat} {b : Bool} {v : Value} {w : World} (hk : k = n) (hb : b = true) (h : A ((c.take n).map f ++ [v]) w) : A ((c.take k).map f ++ (if b = true then [v] else [])) w := by
  subst hk hb; simpa using h
theorem kept_post {A : List Value → World → Prop} {vs : List Value} {b : Bool} {v : Value} {w : World} (hb : b = false) (h : A vs w) : A (vs ++ (if b = true then [v] else [])) w := by
  subst hb; simpa using h
theorem kept_at {A : List Value → World → Prop} {c : List Nat} {f : Nat → Value} {k n : Nat} {b : Bool} {v : Value} {w : World} (hk : k = n) (hb : b = false) (h : A ((c.take n).map f) w) : A ((c.take k).map f ++ (if b = true then [v] else [])) w := by
  subst hk hb; simpa using h
/-- Three resources. -/
theorem wp_region_res3 {id : Nat} {w0 : World} (l : List (Option Value)) (c1 c2 c3 : List Nat) (A1 A2 A3 : List Value → World → Prop) (bss : List (List (Nat × Nat)))
    (hm : P.follows .mixedOrders = true) (ht : tidy ops = true) (hin : (ops.all fun o => match o.dst with | some d => decide (d < a0.tmps.size) | none => true) = true)
    (hc : (chainOk ops c1 && (chainOk ops c2 && chainOk ops c3)) = true) (hcs : ((c1 ++ (c2 ++ c3)).all fun m => decide (m < ops.size)) = true) (hb : bounds ops [c1, c2, c3] = bss)
    (h1 : A1 [] w0.drew) (h2 : A2 [] w0.drew) (h3 : A3 [] w0.drew)
    (hs : StepsR P ops Q a0 (vAt l) [⟨c1, A1⟩, ⟨c2, A2⟩, ⟨c3, A3⟩] 0 ops.toList bss)
    (hend : ∀ vals w, (∀ i, i < ops.size → vAt l i (vals i)) → A1 (c1.map vals) w → A2 (c2.map vals) w → A3 (c3.map vals) w → Q .normal (putAll vals 0 ops.toList a0) w) : (Code.region id ops true).wp P Q a0 w0 := by
  simp only [Bool.and_eq_true, List.all_append] at hc hcs
  refine wp_region_res (vAt l) [⟨c1, A1⟩, ⟨c2, A2⟩, ⟨c3, A3⟩] bss hm ht hin (by simp [hc]) ?_ ?_ ?_ hs ?_
  · simp only [List.all_cons, List.all_nil, Bool.and_true, Bool.and_eq_true]
    exact ⟨hcs.1, hcs.2.1, hcs.2.2⟩
  · exact hb
  · intro n r hr
    match n with
    | 0 => simp at hr; subst hr; exact h1
    | 1 => simp at hr; subst hr; exact h2
    | 2 => simp at hr; subst hr; exact h3
    | n + 3 => simp at hr
  · intro vals w hv hA
    exact hend vals w hv (hA 0 _ rfl) (hA 1 _ rfl) (hA 2 _ rfl)
end
end Go.Proofs.YtdccmlpikjbcaaaGreat
