/- Regions that draw their order, by resources: each resource goes through stages, and a chain of operations takes it from stage to stage. No program in sight. A call beside a chain: it gives a known value and keeps what holds. No program in sight. -/
import Derived.Test.YtglafpdealjlnaaGreatQLib
import Derived.Test.YtglafpdealjlnaaGreatQRely
namespace Go.Proofs.YtglafpdealjlnaaGreat
open Go.RowKit
set_option linter.unusedSimpArgs false
set_option linter.unusedVariables false

/-- chain: the operations that change it, in their order. A vs: what holds behind the first of them, vs the values that they left. -/
structure Res where
  chain : List Nat
  A : List Value → World → Prop

/-- How many of the chain have come up. -/
def stg (l : Array Bool) : List Nat → Nat
  | [] => 0
  | m :: r => if l.getD m false = true then stg l r + 1 else 0
def chainOk (ops : Array Oper) : List Nat → Bool
  | [] => true
  | m :: r => (r.all fun x => x != m && (behind m ops.toList []).getD x false) && chainOk ops r
def loS (ops : Array Oper) (i : Nat) : List Nat → Nat
  | [] => 0
  | m :: r => if (behind m ops.toList []).getD i false = true then loS ops i r + 1 else 0
def hiS (ops : Array Oper) (i : Nat) : List Nat → Nat
  | [] => 0
  | m :: r => if (m == i || (behind i ops.toList []).getD m false) = true then 0 else hiS ops i r + 1

section
variable {P : Program} {ops : Array Oper} {Q : Exit → Act → World → Prop}

def AllAt (ops : Array Oper) (a : Act) (w : World) (ks : Nat → Nat) : Nat → List (Res) → List (Nat × Nat) → Prop
  | n, r :: rs, b :: bs => (b.1 ≤ ks n ∧ ks n ≤ b.2 ∧ r.A ((r.chain.take (ks n)).map (leftAt ops a)) w) ∧ AllAt ops a w ks (n + 1) rs bs
  | _, [], _ => True
  | _, _ :: _, [] => False
/-- What must hold of the resources behind operation i, which left v. -/
def AllPost (ops : Array Oper) (a : Act) (w : World) (ks : Nat → Nat) (i : Nat) (v : Value) : Nat → List (Res) → Prop
  | n, r :: rs => r.A ((r.chain.take (ks n)).map (leftAt ops a) ++ (if r.chain.contains i = true then [v] else [])) w ∧ AllPost ops a w ks i v (n + 1) rs
  | _, [] => True
def StepR (P : Program) (ops : Array Oper) (Q : Exit → Act → World → Prop) (a0 : Act) (V : Nat → Value → Prop) (rs : List (Res)) (i : Nat) (o : Oper) (bs : List (Nat × Nat)) : Prop :=
  ∀ a w ks, AllAt ops a w ks 0 rs bs → (∀ t, freeAt ops i t = true → a.eval (.tmp t) = a0.eval (.tmp t)) → (∀ e ∈ o.after, Region.binds .any e = true → V e.on (leftAt ops a e.on)) →
    Region.wanted o (yielded ops a.tmps) = true ∧
    o.wp P a w (fun a' w' => ∃ v, a' = a.put o.dst v ∧ V i (if o.dst = none then undef else v) ∧ AllPost ops a w' ks i (if o.dst = none then undef else v) 0 rs) Q
def StepsR (P : Program) (ops : Array Oper) (Q : Exit → Act → World → Prop) (a0 : Act) (V : Nat → Value → Prop) (rs : List (Res)) : Nat → List Oper → List (List (Nat × Nat)) → Prop
  | i, o :: r, b :: bs => StepR P ops Q a0 V rs i o b ∧ StepsR P ops Q a0 V rs (i + 1) r bs
  | _, [], _ => True
  | _, _ :: _, [] => False
theorem StepsR.get {a0 : Act} {V : Nat → Value → Prop} {rs : List (Res)} : ∀ (l : List Oper) (bs : List (List (Nat × Nat))) (n : Nat), StepsR P ops Q a0 V rs n l bs → ∀ i o, l[i]? = some o → ∃ b, bs[i]? = some b ∧ StepR P ops Q a0 V rs (n + i) o b
  | [], _, _, _, _, _, h => by simp at h
  | p :: r, [], n, hs, _, _, _ => hs.elim
  | p :: r, b :: bs, n, hs, 0, o, h => by simp at h; subst h; exact ⟨b, rfl, hs.1⟩
  | p :: r, b :: bs, n, hs, i + 1, o, h => by
    obtain ⟨b', h1, h2⟩ := StepsR.get r bs (n + 1) hs.2 i o (by simpa using h)
    exact ⟨b', by simpa using h1, by rwa [show n + (i + 1) = n + 1 + i by omega]⟩
/-- The bounds of the stages, operation by operation. -/
def bounds (ops : Array Oper) (cs : List (List Nat)) : List (List (Nat × Nat)) := (List.range ops.size).map fun i => cs.map fun c => (loS ops i c, hiS ops i c)

structure RelyR (ops : Array Oper) (a0 : Act) (V : Nat → Value → Prop) (rs : List (Res)) (l : Array Bool) (a : Act) (w : World) : Prop where
  defs : a.defers = a0.defers
  size : a.tmps.size = a0.tmps.size
  off : ∀ t, (∀ j o, ops[j]? = some o → l.getD j false = true → o.dst ≠ some t) → a.eval (.tmp t) = a0.eval (.tmp t)
  on : ∀ j, l.getD j false = true → V j (leftAt ops a j)
  closed : ∀ j o, ops[j]? = some o → l.getD j false = true → ∀ e ∈ o.after, Region.binds .any e = true → l.getD e.on false = true
  res : ∀ (n : Nat) (r : Res), rs[n]? = some r → r.A ((r.chain.take (stg l r.chain)).map (leftAt ops a)) w

theorem stg_le (l : Array Bool) : ∀ c : List Nat, stg l c ≤ c.length
  | [] => Nat.le_refl _
  | m :: r => by unfold stg; split <;> simp; exact stg_le l r
theorem stg_done (l : Array Bool) : ∀ (c : List Nat) (m : Nat), m ∈ c.take (stg l c) → l.getD m false = true
  | [], _, h => by simp at h
  | x :: r, m, h => by
    unfold stg at h
    split at h
    · rename_i hx
      rw [List.take_succ_cons] at h
      rcases List.mem_cons.1 h with rfl | h
      · exact hx
      · exact stg_done l r m h
    · simp at h
theorem allAt_of {a : Act} {w : World} {l : Array Bool} {i : Nat} (hlo : ∀ j, (behind j ops.toList []).getD i false = true → l.getD j false = true)
    (hhi : ∀ j, (j == i || (behind i ops.toList []).getD j false) = true → l.getD j false = false) : ∀ (rs : List (Res)) (n : Nat) (ks : Nat → Nat),
    (∀ (m : Nat) (r : Res), rs[m]? = some r → ks (n + m) = stg l r.chain) → (∀ (m : Nat) (r : Res), rs[m]? = some r → r.A ((r.chain.take (stg l r.chain)).map (leftAt ops a)) w) →
    AllAt ops a w ks n rs (rs.map fun r => (loS ops i r.chain, hiS ops i r.chain))
  | [], _, _, _, _ => trivial
  | r :: rs, n, ks, hk, h => by
    have h0 := hk 0 r rfl
    simp only [Nat.add_zero] at h0
    refine ⟨⟨?_, ?_, by rw [h0]; exact h 0 r rfl⟩, allAt_of hlo hhi rs (n + 1) ks (fun m r' hr => by rw [show n + 1 + m = n + (m + 1) by omega]; exact hk (m + 1) r' (by simpa using hr)) (fun m r' hr => h (m + 1) r' (by simpa using hr))⟩
    · rw [h0]
      show loS ops i r.chain ≤ stg l r.chain
      generalize r.chain = c
      induction c with
      | nil => exact Nat.le_refl _
      | cons m c ih =>
        unfold loS stg
        split
        · rename_i hb
          rw [if_pos (hlo m hb)]; omega
        · omega
    · rw [h0]
      show stg l r.chain ≤ hiS ops i r.chain
      generalize r.chain = c
      induction c with
      | nil => exact Nat.le_refl _
      | cons m c ih =>
        unfold hiS stg
        split
        · split
          · rename_i h1 h2
            rw [hhi m h2] at h1; cases h1
          · omega
        · split <;> omega
theorem stg_set {l : Array Bool} {i : Nat} (hi : i < l.size) (hun : l.getD i false = false) (hlo : ∀ j, (behind j ops.toList []).getD i false = true → l.getD j false = true)
    (hhi : ∀ j, (behind i ops.toList []).getD j false = true → l.getD j false = false) : ∀ (c : List Nat), chainOk ops c = true →
    stg (l.setIfInBounds i true) c = (if c.contains i = true then stg l c + 1 else stg l c) ∧ (c.contains i = true → c[stg l c]? = some i)
  | [], _ => ⟨rfl, by simp⟩
  | m :: r, h => by
    simp only [chainOk, Bool.and_eq_true, List.all_eq_true, bne_iff_ne] at h
    obtain ⟨h1, h2⟩ := h
    have ih := stg_set hi hun hlo hhi r h2
    by_cases hm : m = i
    · subst hm
      have e1 : stg l (m :: r) = 0 := by unfold stg; rw [if_neg (by rw [hun]; simp)]
      have e3 : stg (l.setIfInBounds m true) r = 0 := by
        cases r with
        | nil => rfl
        | cons x r =>
          obtain ⟨h3, h4⟩ := h1 x (by simp)
          unfold stg
          rw [if_neg]
          have := hhi x h4
          simpa [Array.getElem?_setIfInBounds, Ne.symm h3] using this
      have e2 : stg (l.setIfInBounds m true) (m :: r) = 1 := by
        rw [stg, if_pos (by simp [hi]), e3]
      rw [e1, e2]
      simp
    · have hg : (l.setIfInBounds i true).getD m false = l.getD m false := by simp [Array.getElem?_setIfInBounds, Ne.symm hm]
      have hcon : (m :: r).contains i = r.contains i := by
        rw [List.contains_cons]
        simp [Ne.symm hm]
      rw [hcon]
      by_cases hl : l.getD m false = true
      · have e1 : stg l (m :: r) = stg l r + 1 := by rw [stg, if_pos hl]
        have e2 : stg (l.setIfInBounds i true) (m :: r) = stg (l.setIfInBounds i true) r + 1 := by rw [stg, if_pos (by rw [hg]; exact hl)]
        rw [e1, e2, ih.1]
        refine ⟨by split <;> rfl, fun hc => by simpa using ih.2 hc⟩
      · have e1 : stg l (m :: r) = 0 := by rw [stg, if_neg hl]
        have e2 : stg (l.setIfInBounds i true) (m :: r) = 0 := by rw [stg, if_neg (by rw [hg]; exact hl)]
        have hc : ¬ r.contains i = true := by
          intro hc
          have := (h1 i (by simpa using hc)).2
          exact hl (hlo m this)
        rw [e1, e2, if_neg hc]
        exact ⟨rfl, fun h => absurd h hc⟩
theorem allPost_get {a : Act} {w : World} {ks : Nat → Nat} {i : Nat} {v : Value} : ∀ (rs : List (Res)) (n : Nat), AllPost ops a w ks i v n rs → ∀ (m : Nat) (r : Res), rs[m]? = some r →
    r.A ((r.chain.take (ks (n + m))).map (leftAt ops a) ++ (if r.chain.contains i = true then [v] else [])) w
  | [], _, _, _, _, hr => by simp at hr
  | r :: rs, n, h, 0, r', hr => by simp at hr; subst hr; exact h.1
  | r :: rs, n, h, m + 1, r', hr => by
    have := allPost_get rs (n + 1) h.2 m r' (by simpa using hr)
    rwa [show n + 1 + m = n + (m + 1) by omega] at this

theorem wp_region_res {id : Nat} {a0 : Act} {w0 : World} (V : Nat → Value → Prop) (rs : List (Res)) (bs : List (List (Nat × Nat)))
    (hm : P.follows .mixedOrders = true) (ht : tidy ops = true) (hin : (ops.all fun o => match o.dst with | some d => decide (d < a0.tmps.size) | none => true) = true)
    (hc : (rs.all fun r => chainOk ops r.chain) = true) (hcs' : (rs.all fun r => r.chain.all fun m => decide (m < ops.size)) = true) (hb : bounds ops (rs.map (·.chain)) = bs) (h0 : ∀ (n : Nat) (r : Res), rs[n]? = some r → r.A [] w0.drew)
    (hs : StepsR P ops Q a0 V rs 0 ops.toList bs)
    (hend : ∀ vals w, (∀ i, i < ops.size → V i (vals i)) → (∀ (n : Nat) (r : Res), rs[n]? = some r → r.A (r.chain.map vals) w) → Q .normal (putAll vals 0 ops.toList a0) w) : (Code.region id ops true).wp P Q a0 w0 := by
  subst hb
  refine wp_region_any hm (wpAny_held (RelyR ops a0 V rs) ?_ ?_ ops.size _ a0 _ (by simp) (by simp) ?_)
  · intro l a w i hls hi hg
    obtain ⟨hun, o, ho, hall⟩ := mem_ready.1 hi
    have hisz : i < ops.size := (Array.getElem?_eq_some_iff.1 ho).1
    have hil : i < l.size := by omega
    have hun' : l.getD i false = false := by simpa [hil] using hun
    have hclosed' : ∀ j p, ops[j]? = some p → (l.setIfInBounds i true).getD j false = true → ∀ e ∈ p.after, Region.binds .any e = true → (l.setIfInBounds i true).getD e.on false = true := by
      intro j p hp hj e he hb
      have hmono : ∀ k, l.getD k false = true → (l.setIfInBounds i true).getD k false = true := by
        intro k hk
        by_cases hki : k = i
        · subst hki; rw [hun'] at hk; cases hk
        · simpa [Array.getElem?_setIfInBounds, Ne.symm hki] using hk
      by_cases hji : j = i
      · subst hji
        rw [ho] at hp; injection hp with hp; subst hp
        exact hmono _ (hall e he hb)
      · have hlj : l.getD j false = true := by simpa [Array.getElem?_setIfInBounds, Ne.symm hji] using hj
        exact hmono _ (hg.closed j p hp hlj e he hb)
    have hlo : ∀ j, (behind j ops.toList []).getD i false = true → l.getD j false = true := by
      intro j hj
      by_cases hji : j = i
      · subst hji
        exfalso
        have hself : (behind j ops.toList []).getD j false = false := by
          cases hb : (behind j ops.toList []).getD j false with
          | false => rfl
          | true =>
            have h2 := behind_not (l := l) hun' ops.toList [] [] rfl (fun j o ho => hg.closed j o (by simpa using ho)) (by simp) j hb
            exfalso
            -- the operation would wait for itself
            exact absurd hj (by
              intro _
              have h3 : ∀ (r : List Oper) (pre : List Oper) (acc : List Bool), acc.length = pre.length → (∀ (k : Nat) o, (pre ++ r)[k]? = some o → ∀ e ∈ o.after, Region.binds .any e = true → e.on < k) →
                  (∀ k, k ≤ j → acc.getD k false = false) → ∀ k, k ≤ j → (behind j r acc).getD k false = false := by
                intro r
                induction r with
                | nil => intro pre acc hl he ha k hk; exact ha k hk
                | cons o r ih =>
                  intro pre acc hl he ha k hk
                  refine ih (pre ++ [o]) _ (by simp [hl]) (by simpa using he) ?_ k hk
                  intro k hk
                  by_cases hlt : k < acc.length
                  · have := ha k hk
                    rw [List.getD_eq_getElem?_getD, List.getElem?_append_left hlt]
                    rwa [List.getD_eq_getElem?_getD] at this
                  · by_cases hke : k = acc.length
                    · subst hke
                      rw [List.getD_eq_getElem?_getD, List.getElem?_concat_length, Option.getD_some, List.any_eq_false]
                      intro e hem
                      simp only [Bool.and_eq_true, Bool.or_eq_true, beq_iff_eq, not_and, not_or]
                      intro hbi
                      have hlt2 := he acc.length o (by rw [hl]; simp) e (by simpa using hem) hbi
                      exact ⟨by omega, by rw [ha e.on (by omega)]; simp⟩
                    · rw [List.getD_eq_getElem?_getD, List.getElem?_eq_none (by simp; omega)]
                      rfl
              have h4 := h3 ops.toList [] [] rfl (fun k o hk e he hb => tidy_edge ht (by simpa using hk) e he hb) (by simp) j (Nat.le_refl _)
              rw [h4] at hb; cases hb)
        rw [hself] at hj; cases hj
      · cases hlj : l.getD j false with
        | true => rfl
        | false =>
          exfalso
          have hlj2 : (l.setIfInBounds i true).getD j false = false := by simpa [Array.getElem?_setIfInBounds, Ne.symm hji] using hlj
          have := behind_not hlj2 ops.toList [] [] rfl (fun j o ho => hclosed' j o (by simpa using ho)) (by simp) i hj
          simp [hil] at this
    have hhi1 : ∀ j, (behind i ops.toList []).getD j false = true → l.getD j false = false := fun j hj =>
      behind_not hun' ops.toList [] [] rfl (fun j o ho => hg.closed j o (by simpa using ho)) (by simp) j hj
    have hhi : ∀ j, (j == i || (behind i ops.toList []).getD j false) = true → l.getD j false = false := by
      intro j hj
      rw [Bool.or_eq_true, beq_iff_eq] at hj
      rcases hj with rfl | hj
      · exact hun'
      · exact hhi1 j hj
    obtain ⟨b, hb, hstep⟩ := StepsR.get (P := P) (Q := Q) ops.toList _ 0 hs i o (by simpa using ho)
    rw [Nat.zero_add] at hstep
    have hbe : b = rs.map fun r => (loS ops i r.chain, hiS ops i r.chain) := by
      simp only [bounds, List.getElem?_map, List.getElem?_range hisz, Option.map_some, Option.some.injEq] at hb
      rw [← hb, List.map_map]; rfl
    subst hbe
    have h1 := hstep a w (fun n => match rs[n]? with | some r => stg l r.chain | none => 0)
      (allAt_of hlo hhi rs 0 _ (fun m r hr => by simp only [Nat.zero_add, hr]) hg.res)
      (fun t hf => hg.off t fun j p hp hlj hd => by
        have hj : j < ops.size := (Array.getElem?_eq_some_iff.1 hp).1
        have := List.all_eq_true.1 hf j (by simpa using hj)
        simp only [hp, hd, Bool.or_eq_true, beq_iff_eq, bne_self_eq_false, Bool.false_eq_true, false_or] at this
        rcases this with rfl | hb
        · rw [hun'] at hlj; cases hlj
        · rw [hhi1 j (by simpa using hb)] at hlj; cases hlj)
      (fun e he hb => hg.on e.on (hall e he hb))
    have hsame : ∀ v j, j ≠ i → l.getD j false = true → leftAt ops (a.put o.dst v) j = leftAt ops a j := by
      intro v j hji hlj
      unfold leftAt
      cases hp : ops[j]? with
      | none => rfl
      | some p =>
        cases hd : p.dst with
        | none => simp [hd]
        | some d =>
          simp only [Option.bind_some, hd]
          cases hd' : o.dst with
          | none => rfl
          | some d' => exact eval_put_ne (fun e => hji (tidy_dst ht hp ho hd (by rw [hd', e])))
    have hself : ∀ v, leftAt ops (a.put o.dst v) i = if o.dst = none then undef else v := by
      intro v
      unfold leftAt
      simp only [ho, Option.bind_some]
      cases hd : o.dst with
      | none => simp
      | some d =>
        have := (Array.all_eq_true_iff_forall_mem.1 hin) o (Array.mem_of_getElem? ho)
        simp only [hd, decide_eq_true_eq] at this
        simp only [reduceCtorEq, if_false]
        exact eval_put_self (by rw [hg.size]; exact this)
    have hset : ∀ j, (l.setIfInBounds i true).getD j false = true → j = i ∨ l.getD j false = true := by
      intro j hj
      by_cases hji : j = i
      · exact .inl hji
      · right; simpa [Array.getElem?_setIfInBounds, Ne.symm hji] using hj
    unfold wpOp
    simp only [ho]
    rw [if_pos h1.1]
    refine .inl (Oper.wp_mono ?_ h1.2)
    rintro a' w' ⟨v, rfl, hV, hR⟩
    refine ⟨defers_put.trans hg.defs, size_put.trans hg.size, ?_, ?_, hclosed', ?_⟩
    · intro t hno
      have hne : o.dst ≠ some t := hno i o ho (by simp [hil])
      have h2 : (a.put o.dst v).eval (.tmp t) = a.eval (.tmp t) := by
        cases hd : o.dst with
        | none => rfl
        | some d => exact eval_put_ne (fun e => hne (by rw [hd, e]))
      rw [h2]
      refine hg.off t fun j p hp hlj => hno j p hp ?_
      by_cases hji : j = i
      · subst hji; simp [hil]
      · simpa [Array.getElem?_setIfInBounds, Ne.symm hji] using hlj
    · intro j hj
      by_cases hji : j = i
      · subst hji; rw [hself]; exact hV
      · have hlj := (hset j hj).resolve_left hji
        rw [hsame v j hji hlj]
        exact hg.on j hlj
    · intro n r hr
      have hp := allPost_get rs 0 hR n r hr
      simp only [Nat.zero_add, hr] at hp
      have hck : chainOk ops r.chain = true := by
        have := List.all_eq_true.1 hc r (List.mem_of_getElem? hr)
        exact this
      obtain ⟨s1, s2⟩ := stg_set hil hun' hlo hhi1 r.chain hck
      have hold : (r.chain.take (stg l r.chain)).map (leftAt ops (a.put o.dst v)) = (r.chain.take (stg l r.chain)).map (leftAt ops a) := by
        apply List.map_congr_left
        intro j hj
        have hlj := stg_done l r.chain j hj
        exact hsame v j (by rintro rfl; rw [hun'] at hlj; cases hlj) hlj
      rw [s1]
      split
      · rename_i hcn
        rw [if_pos hcn] at hp
        rw [List.take_add_one, s2 hcn, List.map_append, hold]
        simp only [Option.toList_some, List.map_cons, List.map_nil]
        rw [hself]
        exact hp
      · rename_i hcn
        rw [if_neg hcn] at hp
        rw [hold]
        simpa using hp
  · intro l a w hls hr hg
    have hall : ∀ j, j < ops.size → l.getD j false = true := by
      intro j
      induction j using Nat.strongRecOn with
      | ind j ih =>
        intro hj
        cases hlj : l.getD j false with
        | true => rfl
        | false =>
          exfalso
          have : j ∈ Region.ready .any ops l := mem_ready.2 ⟨(by
            have : j < l.size := by omega
            simpa [this] using hlj), ops[j], by simp [hj], fun e he hb => by
            have hlt := tidy_edge ht (i := j) (o := ops[j]) (by simp [hj]) e he hb
            exact ih e.on hlt (by omega)⟩
          rw [hr] at this
          cases this
    have hall2 : ∀ (n : Nat) (r : Res), rs[n]? = some r → r.A (r.chain.map (leftAt ops a)) w := by
      intro n r hrs
      have h1 := hg.res n r hrs
      have h2 : ∀ c : List Nat, (∀ m ∈ c, m < ops.size) → stg l c = c.length := by
        intro c
        induction c with
        | nil => intro _; rfl
        | cons m c ih => intro h; rw [stg, if_pos (hall m (h m (by simp))), ih (fun x hx => h x (by simp [hx]))]; rfl
      by_cases hsz : ∀ m ∈ r.chain, m < ops.size
      · rw [h2 _ hsz, List.take_length] at h1
        exact h1
      · -- an operation that isn't there leaves nothing
        exfalso
        exact hsz (by
          have := List.all_eq_true.1 hcs' r (List.mem_of_getElem? hrs)
          intro m hm
          simpa using List.all_eq_true.1 this m hm)
    have := hend (fun i => leftAt ops a i) w (fun i hi => hg.on i (hall i hi)) hall2
    have e : putAll (fun i => leftAt ops a i) 0 ops.toList a0 = a := by
      have hsz := putAll_size (fun i => leftAt ops a i) ops.toList 0 a0
      have key : ∀ t, t < a0.tmps.size → (putAll (fun i => leftAt ops a i) 0 ops.toList a0).eval (.tmp t) = a.eval (.tmp t) := by
        intro t htl
        by_cases hex : ∃ (i : Nat) (o : Oper), ops[i]? = some o ∧ o.dst = some t
        · obtain ⟨i, o, ho, hd⟩ := hex
          rw [putAll_on _ t ops.toList 0 a0 i o (by simpa using ho) hd (fun j p hp hpd => tidy_dst ht (by simpa using hp) ho hpd hd) htl, Nat.zero_add]
          simp [leftAt, ho, hd]
        · rw [putAll_off _ t ops.toList 0 a0 (fun o ho hd => by
            obtain ⟨i, hi⟩ := List.mem_iff_getElem?.1 ho
            exact hex ⟨i, o, by simpa using hi, hd⟩)]
          exact (hg.off t fun j p hp _ hpd => hex ⟨j, p, hp, hpd⟩).symm
      generalize putAll (fun i => leftAt ops a i) 0 ops.toList a0 = b at *
      obtain ⟨bt, bd⟩ := b
      obtain ⟨at_, ad⟩ := a
      have h1 : bt = at_ := by
        apply Array.ext
        · exact hsz.1.trans hg.size.symm
        · intro t h1 h2
          have h3 := key t (by rw [← hsz.1]; exact h1)
          simpa [Act.eval, h1, h2] using h3
      have h2 : bd = ad := hsz.2.trans hg.defs.symm
      rw [h1, h2]
    rwa [e] at this
  · refine ⟨rfl, rfl, fun _ _ => rfl, fun j hj => ?_, fun j o ho hj => ?_, fun n r hr => ?_⟩
    · exfalso
      rw [Array.getD_eq_getD_getElem?, Array.getElem?_replicate] at hj
      split at hj <;> simp at hj
    · exfalso
      rw [Array.getD_eq_getD_getElem?, Array.getElem?_replicate] at hj
      split at hj <;> simp at hj
    · have : stg (Array.replicate ops.size false) r.chain = 0 := by
        cases r.chain with
        | nil => rfl
        | cons m c =>
          rw [stg, if_neg]
          rw [Array.getD_eq_getD_getElem?, Array.getElem?_replicate]
          split <;> simp
      rw [this]
      exact h0 n r hr

/-! ### one chain -/
def vAt (l : List (Option Value)) (i : Nat) (v : Value) : Prop := match l[i]? with
  | some (some x) => v = x
  | _ => True
def StepC (P : Program) (ops : Array Oper) (Q : Exit → Act → World → Prop) (a0 : Act) (V : Nat → Value → Prop) (chain : List Nat) (A : List Value → World → Prop) (i : Nat) (o : Oper) (b : Nat × Nat) : Prop :=
  ∀ a w k, b.1 ≤ k → k ≤ b.2 → A ((chain.take k).map (leftAt ops a)) w → (∀ t, freeAt ops i t = true → a.eval (.tmp t) = a0.eval (.tmp t)) → (∀ e ∈ o.after, Region.binds .any e = true → V e.on (leftAt ops a e.on)) →
    Region.wanted o (yielded ops a.tmps) = true ∧
    o.wp P a w (fun a' w' => ∃ v, a' = a.put o.dst v ∧ V i (if o.dst = none then undef else v) ∧ A ((chain.take k).map (leftAt ops a) ++ (if chain.contains i = true then [if o.dst = none then undef else v] else [])) w') Q
def StepsC (P : Program) (ops : Array Oper) (Q : Exit → Act → World → Prop) (a0 : Act) (V : Nat → Value → Prop) (chain : List Nat) (A : List Value → World → Prop) : Nat → List Oper → List (Nat × Nat) → Prop
  | i, o :: r, b :: bs => StepC P ops Q a0 V chain A i o b ∧ StepsC P ops Q a0 V chain A (i + 1) r bs
  | _, [], _ => True
  | _, _ :: _, [] => False
theorem StepsC.cons {a0 : Act} {V : Nat → Value → Prop} {chain : List Nat} {A : List Value → World → Prop} {i : Nat} {o : Oper} {r : List Oper} {b : Nat × Nat} {bs : List (Nat × Nat)}
    (h : StepC P ops Q a0 V chain A i o b) (t : StepsC P ops Q a0 V chain A (i + 1) r bs) : StepsC P ops Q a0 V chain A i (o :: r) (b :: bs) := ⟨h, t⟩
theorem StepsC.nil {a0 : Act} {V : Nat → Value → Prop} {chain : List Nat} {A : List Value → World → Prop} {i : Nat} {bs : List (Nat × Nat)} : StepsC P ops Q a0 V chain A i [] bs := by cases bs <;> trivial
theorem StepsC.toR {a0 : Act} {V : Nat → Value → Prop} {chain : List Nat} {A : List Value → World → Prop} : ∀ (l : List Oper) (bs : List (Nat × Nat)) (i : Nat), StepsC P ops Q a0 V chain A i l bs → StepsR P ops Q a0 V [⟨chain, A⟩] i l (bs.map fun b => [b])
  | [], _, _, _ => by unfold StepsR; trivial
  | _ :: _, [], _, h => h.elim
  | o :: r, b :: bs, i, h => by
    refine ⟨?_, StepsC.toR r bs (i + 1) h.2⟩
    intro a w ks hR hF hD
    obtain ⟨h1, h2⟩ := h.1 a w (ks 0) hR.1.1 hR.1.2.1 hR.1.2.2 hF hD
    refine ⟨h1, Oper.wp_mono ?_ h2⟩
    rintro a' w' ⟨v, e, hV, hA⟩
    exact ⟨v, e, hV, hA, trivial⟩
def boundsC (ops : Array Oper) (c : List Nat) : List (Nat × Nat) := (List.range ops.size).map fun i => (loS ops i c, hiS ops i c)
theorem wp_region_chain {id : Nat} {a0 : Act} {w0 : World} (l : List (Option Value)) (chain : List Nat) (A : List Value → World → Prop) (bs : List (Nat × Nat))
    (hm : P.follows .mixedOrders = true) (ht : tidy ops = true) (hin : (ops.all fun o => match o.dst with | some d => decide (d < a0.tmps.size) | none => true) = true)
    (hc : chainOk ops chain = true) (hcs : (chain.all fun m => decide (m < ops.size)) = true) (hb : boundsC ops chain = bs) (h0 : A [] w0.drew)
    (hs : StepsC P ops Q a0 (vAt l) chain A 0 ops.toList bs)
    (hend : ∀ vals w, (∀ i, i < ops.size → vAt l i (vals i)) → A (chain.map vals) w → Q .normal (putAll vals 0 ops.toList a0) w) : (Code.region id ops true).wp P Q a0 w0 := by
  refine wp_region_res (vAt l) [⟨chain, A⟩] (bs.map fun b => [b]) hm ht hin (by simp [hc]) (by simpa using hcs) ?_ ?_ (StepsC.toR _ _ _ hs) ?_
  · subst hb
    simp [bounds, boundsC]
  · intro n r hr
    cases n with
    | zero => simp at hr; subst hr; exact h0
    | succ n => simp at hr
  · intro vals w hv hA
    exact hend vals w hv (hA 0 _ rfl)

variable {a0 : Act} {V : Nat → Value → Prop} {chain : List Nat} {A : List Value → World → Prop} {i : Nat} {o : Oper} {b : Nat × Nat}
/-- The operation is wanted: it has no guard, or its guard has come up as it wants. -/
def WantedBy (ops : Array Oper) (V : Nat → Value → Prop) (o : Oper) : Prop :=
  o.guard = none ∨ ∃ (j : Nat) (b : Bool) (e : _), o.guard = some (j, b) ∧ e ∈ o.after ∧ Region.binds .any e = true ∧ e.on = j ∧ ∀ x, V j x → x = .bool b
theorem WantedBy.wanted {a : Act} (h : WantedBy ops V o) (hD : ∀ e ∈ o.after, Region.binds .any e = true → V e.on (leftAt ops a e.on)) : Region.wanted o (yielded ops a.tmps) = true := by
  rcases h with hg | ⟨j, b, e, hg, he, hb, rfl, hV⟩
  · simp [Region.wanted, hg]
  · have h := hV _ (hD e he hb)
    have hy : yielded ops a.tmps e.on = some b := by
      unfold yielded
      unfold leftAt at h
      cases hd : (ops[e.on]?).bind (·.dst) with
      | none => rw [hd] at h; cases h
      | some d =>
        rw [hd] at h
        have h2 : a.tmps[d]?.getD undef = .bool b := (show a.eval (.tmp d) = a.tmps[d]?.getD undef by simp [Act.eval]).symm.trans h
        cases hx : a.tmps[d]? with
        | none => rw [hx] at h2; cases h2
        | some x => rw [hx] at h2; simp at h2; subst h2; simp [hx]
    simp [Region.wanted, hg, hy]
/-- The operation yields x and leaves the world. -/
theorem chain_is (x : Value) (hg : WantedBy ops V o) (hd : ∃ d, o.dst = some d) (hnc : chain.contains i = false) (hv : V i x)
    (h : ∀ a w k, b.1 ≤ k → k ≤ b.2 → A ((chain.take k).map (leftAt ops a)) w → (∀ t, freeAt ops i t = true → a.eval (.tmp t) = a0.eval (.tmp t)) → (∀ e ∈ o.after, Region.binds .any e = true → V e.on (leftAt ops a e.on)) →
      (execOp a.eval o).run P w = .ok (.value x) w) : StepC P ops Q a0 V chain A i o b := by
  intro a w k h1 h2 hA hF hD
  refine ⟨hg.wanted hD, ?_⟩
  obtain ⟨d, hd⟩ := hd
  unfold Oper.wp
  rw [h a w k h1 h2 hA hF hD]
  exact ⟨x, rfl, by rw [hd]; simpa using hv, by rw [hnc]; simpa using hA⟩
/-- The operation yields some value and leaves the world. -/
theorem chain_any (hg : WantedBy ops V o) (hnc : chain.contains i = false) (hv : ∀ x, V i x)
    (h : ∀ a w k, b.1 ≤ k → k ≤ b.2 → A ((chain.take k).map (leftAt ops a)) w → (∀ t, freeAt ops i t = true → a.eval (.tmp t) = a0.eval (.tmp t)) → (∀ e ∈ o.after, Region.binds .any e = true → V e.on (leftAt ops a e.on)) →
      ∃ x, (execOp a.eval o).run P w = .ok (.value x) w) : StepC P ops Q a0 V chain A i o b := by
  intro a w k h1 h2 hA hF hD
  refine ⟨hg.wanted hD, ?_⟩
  obtain ⟨x, hx⟩ := h a w k h1 h2 hA hF hD
  unfold Oper.wp
  rw [hx]
  exact ⟨x, rfl, hv _, by rw [hnc]; simpa using hA⟩
/-- The operation is of the chain: it yields a value. -/
theorem chain_run (hg : WantedBy ops V o) (hd : ∃ d, o.dst = some d) (hnc : chain.contains i = true)
    (h : ∀ a w k, b.1 ≤ k → k ≤ b.2 → A ((chain.take k).map (leftAt ops a)) w → (∀ t, freeAt ops i t = true → a.eval (.tmp t) = a0.eval (.tmp t)) → (∀ e ∈ o.after, Region.binds .any e = true → V e.on (leftAt ops a e.on)) →
      ∃ x w', (execOp a.eval o).run P w = .ok (.value x) w' ∧ V i x ∧ A ((chain.take k).map (leftAt ops a) ++ [x]) w') : StepC P ops Q a0 V chain A i o b := by
  intro a w k h1 h2 hA hF hD
  refine ⟨hg.wanted hD, ?_⟩
  obtain ⟨d, hd⟩ := hd
  obtain ⟨x, w', r1, r2, r3⟩ := h a w k h1 h2 hA hF hD
  unfold Oper.wp
  rw [r1]
  exact ⟨x, rfl, by rw [hd]; simpa using r2, by rw [hnc, hd]; simpa using r3⟩
/-- The operation is of the chain: it stores. -/
theorem chain_set (hg : WantedBy ops V o) (hd : o.dst = none) (hnc : chain.contains i = true) (hv : V i undef)
    (h : ∀ a w k, b.1 ≤ k → k ≤ b.2 → A ((chain.take k).map (leftAt ops a)) w → (∀ t, freeAt ops i t = true → a.eval (.tmp t) = a0.eval (.tmp t)) → (∀ e ∈ o.after, Region.binds .any e = true → V e.on (leftAt ops a e.on)) →
      ∃ w', (execOp a.eval o).run P w = .ok .skip w' ∧ A ((chain.take k).map (leftAt ops a) ++ [undef]) w') : StepC P ops Q a0 V chain A i o b := by
  intro a w k h1 h2 hA hF hD
  refine ⟨hg.wanted hD, ?_⟩
  obtain ⟨w', r1, r3⟩ := h a w k h1 h2 hA hF hD
  unfold Oper.wp
  rw [r1]
  exact ⟨undef, rfl, by rw [hd]; simpa using hv, by rw [hnc, hd]; simpa using r3⟩
/-- The operation is of the chain: a call. -/
theorem chain_call (hg : WantedBy ops V o) (hd : ∃ d, o.dst = some d) (hnc : chain.contains i = true)
    (h : ∀ a w k, b.1 ≤ k → k ≤ b.2 → A ((chain.take k).map (leftAt ops a)) w → (∀ t, freeAt ops i t = true → a.eval (.tmp t) = a0.eval (.tmp t)) → (∀ e ∈ o.after, Region.binds .any e = true → V e.on (leftAt ops a e.on)) →
      ∃ f args, (execOp a.eval o).run P w = .ok (.enter f args) w ∧ Calls P f args w fun e w' => ∃ x, e = .returned x ∧ V i x ∧ A ((chain.take k).map (leftAt ops a) ++ [x]) w') : StepC P ops Q a0 V chain A i o b := by
  intro a w k h1 h2 hA hF hD
  refine ⟨hg.wanted hD, ?_⟩
  obtain ⟨d, hd⟩ := hd
  obtain ⟨f, args, r1, r2⟩ := h a w k h1 h2 hA hF hD
  unfold Oper.wp
  rw [r1]
  refine Calls.mono r2 ?_
  rintro e w' ⟨x, rfl, r3, r4⟩
  exact ⟨x, rfl, by rw [hd]; simpa using r3, by rw [hnc, hd]; simpa using r4⟩
end
end Go.Proofs.YtglafpdealjlnaaGreat
namespace Go.Proofs.YtglafpdealjlnaaGreat
open Go.RowKit
set_option linter.unusedSimpArgs false
set_option linter.unusedVariables false
section
variable {P : Program} {ops : Array Oper} {Q : Exit → Act → World → Prop} {a0 : Act} {V : Nat → Value → Prop} {chain : List Nat} {A : List Value → World → Prop} {i : Nat} {o : Oper} {b : Nat × Nat}
theorem chain_beside (x : Value) (hg : WantedBy ops V o) (hd : ∃ d, o.dst = some d) (hnc : chain.contains i = false) (hv : V i x)
    (h : ∀ a w k, b.1 ≤ k → k ≤ b.2 → A ((chain.take k).map (leftAt ops a)) w → (∀ t, freeAt ops i t = true → a.eval (.tmp t) = a0.eval (.tmp t)) → (∀ e ∈ o.after, Region.binds .any e = true → V e.on (leftAt ops a e.on)) →
      ∃ f args, (execOp a.eval o).run P w = .ok (.enter f args) w ∧ Calls P f args w fun e w' => e = .returned x ∧ A ((chain.take k).map (leftAt ops a)) w') : StepC P ops Q a0 V chain A i o b := by
  intro a w k h1 h2 hA hF hD
  refine ⟨hg.wanted hD, ?_⟩
  obtain ⟨d, hd⟩ := hd
  obtain ⟨f, args, r1, r2⟩ := h a w k h1 h2 hA hF hD
  unfold Oper.wp
  rw [r1]
  refine Calls.mono r2 ?_
  rintro e w' ⟨rfl, r4⟩
  exact ⟨x, rfl, by rw [hd]; simpa using hv, by rw [hnc]; simpa using r4⟩
end
/-- A thing is made, then written: a chain of two operations. -/
def newA (w0 : World) (t : TypeId) (z cs : Array Value) (vs : List Value) (W : World) : Prop := match vs with
  | [] => Upd [] w0 W
  | [p] => Upd [] w0 W ∧ ∃ g, w0.heap.size ≤ g ∧ p = .pointer (some ⟨g, 0, none⟩) ∧ Blk W g t z
  | [p, _] => Upd [] w0 W ∧ ∃ g, w0.heap.size ≤ g ∧ p = .pointer (some ⟨g, 0, none⟩) ∧ Blk W g t cs
  | _ => False
end Go.Proofs.YtglafpdealjlnaaGreat
