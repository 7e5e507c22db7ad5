/- The region of a map literal: whatever the order, the map holds its table. No program in sight. -/
import Derived.Test.YtcplhlokbnaabaaMaps2
import Derived.Test.YtcplhlokbnaabaaRelyN
import Derived.Test.YtcplhlokbnaabaaFacts
namespace Go.Proofs.Ytcplhlokbnaabaa
open Go.RowKit
set_option linter.unusedSimpArgs false
set_option linter.unusedVariables false
set_option linter.unusedSectionVars false

def HasM {κ : Type} (enc : κ → Value) (w : World) (g : Nat) (p : κ × Value) : Prop := ∃ m, HoldsM enc w g m ∧ p ∈ m
/-- Block g holds just this table, in whatever order. -/
def TabM {κ : Type} (enc : κ → Value) (w : World) (g : Nat) (tab : List (κ × Value)) : Prop := ∃ m, HoldsM enc w g m ∧ (∀ p ∈ m, p ∈ tab) ∧ ∀ p ∈ tab, p ∈ m
def lookV {κ : Type} [DecidableEq κ] (k : κ) : List (κ × Value) → Option Value
  | [] => none
  | p :: m => if k = p.1 then some p.2 else lookV k m

section
variable {κ : Type} [DecidableEq κ] {P : Program} {K E T : TypeId} {enc : κ → Value}
theorem HoldsM.upd {F : List Nat} {w w' : World} {g : Nat} {m : List (κ × Value)} (h : HoldsM enc w g m) (hu : Upd F w w') (hg : g ∉ F) : HoldsM enc w' g m := by
  obtain ⟨es, c, h1, h2⟩ := h
  have hlt : g < w.heap.size := by
    rcases Nat.lt_or_ge g w.heap.size with h | h
    · exact h
    · rw [Array.getElem?_eq_none h] at h1; cases h1
  exact ⟨es, c, (hu.block g hlt hg).trans h1, h2⟩
theorem TabM.upd {F : List Nat} {w w' : World} {g : Nat} {tab : List (κ × Value)} (h : TabM enc w g tab) (hu : Upd F w w') (hg : g ∉ F) : TabM enc w' g tab := by
  obtain ⟨m, h1, h2⟩ := h
  exact ⟨m, h1.upd hu hg, h2⟩
theorem HoldsM.inj (hinj : ∀ a b, enc a = enc b → a = b) {w : World} {g : Nat} {m m' : List (κ × Value)} (h : HoldsM enc w g m) (h' : HoldsM enc w g m') : m = m' := by
  obtain ⟨es, c, h1, h2, -⟩ := h
  obtain ⟨es', c', h1', h2', -⟩ := h'
  rw [h1] at h1'
  injection h1' with h1'
  injection h1' with h3 h4
  subst h3
  rw [h2] at h2'
  clear h1 h2 h4
  induction m generalizing m' with
  | nil => simpa using h2'
  | cons p m ih =>
    cases m' with
    | nil => simp at h2'
    | cons p' m' =>
      simp only [List.map_cons, List.cons.injEq, Prod.mk.injEq] at h2'
      rw [ih h2'.2]
      congr 1
      exact Prod.ext (hinj _ _ h2'.1.1) h2'.1.2
theorem lookIx_lookV (k : κ) : ∀ (m : List (κ × Value)) (i : Nat), (lookIx k m i).map (·.2) = lookV k m
  | [], _ => rfl
  | p :: m, i => by
    rw [lookIx, lookV]
    by_cases h : k = p.1
    · rw [if_pos h, if_pos h]; rfl
    · rw [if_neg h, if_neg h]; exact lookIx_lookV k m (i + 1)
theorem lookV_mem {k : κ} {v : Value} : ∀ {m : List (κ × Value)}, lookV k m = some v → (k, v) ∈ m
  | [], h => by cases h
  | p :: m, h => by
    rw [lookV] at h
    by_cases hk : k = p.1
    · rw [if_pos hk] at h
      injection h with h
      subst h
      rw [hk]; exact List.mem_cons_self
    · rw [if_neg hk] at h
      exact List.mem_cons_of_mem _ (lookV_mem h)
theorem lookV_none {k : κ} : ∀ {m : List (κ × Value)}, lookV k m = none → ∀ v, (k, v) ∉ m
  | [], _ => by simp
  | p :: m, h => by
    rw [lookV] at h
    by_cases hk : k = p.1
    · rw [if_pos hk] at h; cases h
    · rw [if_neg hk] at h
      intro v hv
      rcases List.mem_cons.1 hv with e | hv
      · exact hk (by rw [← e])
      · exact lookV_none h v hv
theorem lookV_same {m m' : List (κ × Value)} (hf : ∀ p ∈ m', ∀ q ∈ m', p.1 = q.1 → p.2 = q.2) (h1 : ∀ p ∈ m, p ∈ m') (h2 : ∀ p ∈ m', p ∈ m) (k : κ) : lookV k m = lookV k m' := by
  cases h : lookV k m with
  | none =>
    cases h' : lookV k m' with
    | none => rfl
    | some v => exact absurd (h2 _ (lookV_mem h')) (lookV_none h v)
  | some v =>
    cases h' : lookV k m' with
    | none => exact absurd (h1 _ (lookV_mem h)) (lookV_none h' v)
    | some v' => exact congrArg some (hf _ (h1 _ (lookV_mem h)) _ (lookV_mem h') rfl)
/-- A key is looked up in a table. -/
theorem TabM.look {w : World} {g : Nat} {tab : List (κ × Value)} (h : TabM enc w g tab) (hf : ∀ p ∈ tab, ∀ q ∈ tab, p.1 = q.1 → p.2 = q.2) (kl : KeyEnc κ P K enc) (hT : P.underlying T = some (.map K E)) {z : Value} (hz : (zeroValue E).run P w = .ok z w) (k : κ) :
    (Instr.lookup T (.map (some g)) (enc k) true).run P w = .ok (.tuple #[(lookV k tab).getD z, .bool (lookV k tab).isSome]) w ∧ (Instr.lookup T (.map (some g)) (enc k) false).run P w = .ok ((lookV k tab).getD z) w := by
  obtain ⟨m, hm, h1, h2⟩ := h
  have := hm.look kl hT hz k
  rw [lookIx_lookV, lookV_same hf h1 h2] at this
  have h3 : (lookIx k m 0).isSome = (lookV k tab).isSome := by
    rw [← lookV_same hf h1 h2 k, ← lookIx_lookV k m 0]; cases lookIx k m 0 <;> rfl
  rw [h3] at this
  exact this

/-! ### the region -/
variable {ops : Array Oper} {Q : Exit → Act → World → Prop} {a0 : Act} {w0 : World}
def LitM (enc : κ → Value) (tab : List (κ × Value)) (g : Nat) (w : World) : Prop := ∃ m, HoldsM enc w g m ∧ ∀ p ∈ m, p ∈ tab
def litD (enc : κ → Value) (tab : List (κ × Value)) (g : Nat) (i : Nat) (v : Value) (w : World) : Prop :=
  match i with
  | 0 => v = .map (some g) ∧ LitM enc tab g w
  | i + 1 => if 2 * tab.length ≤ i then v = .map (some g) else
      match tab[i / 2]? with
      | none => True
      | some p => if i % 2 = 0 then v = enc p.1 else HasM enc w g p
def litI (w0 w : World) : Prop := Upd [] w0 w ∧ (w.heap.size = w0.heap.size ∨ w.heap.size = w0.heap.size + 1)
def litN (w0 : World) (j : Nat) (w : World) : Prop := j = 0 → w.heap.size = w0.heap.size
def litR (enc : κ → Value) (tab : List (κ × Value)) (g : Nat) (i : Nat) (w w' : World) : Prop := (∀ p, HasM enc w g p → HasM enc w' g p) ∧ (i ≠ 0 → w'.heap.size = w.heap.size) ∧ (LitM enc tab g w → LitM enc tab g w')
abbrev LitStep (P : Program) (ops : Array Oper) (Q : Exit → Act → World → Prop) (a0 : Act) (enc : κ → Value) (tab : List (κ × Value)) (w0 : World) (i : Nat) (o : Oper) : Prop :=
  StepToN P ops Q a0 (litD enc tab w0.heap.size) (litI w0) (litN w0) (litR enc tab w0.heap.size) i o
theorem litD_keep {tab : List (κ × Value)} {g i j : Nat} {v : Value} {w w' : World} (h : litD enc tab g j v w) (hR : litR enc tab g i w w') : litD enc tab g j v w' := by
  match j, h with
  | 0, h => exact ⟨h.1, hR.2.2 h.2⟩
  | j + 1, h =>
    unfold litD at h ⊢
    simp only at h ⊢
    split
    · rename_i hj
      rw [if_pos hj] at h; exact h
    · rename_i hj
      rw [if_neg hj] at h
      cases ht : tab[j / 2]? with
      | none => trivial
      | some p =>
        rw [ht] at h
        simp only at h ⊢
        split
        · rename_i h2; rw [if_pos h2] at h; exact h
        · rename_i h2; rw [if_neg h2] at h; exact hR.1 p h
theorem lit_make {tab : List (κ × Value)} {o : Oper} (hg : o.guard = none) (hd : ∃ d, o.dst = some d) (h : ∀ (a : Act) (w : World), (execOp a.eval o).run P w = .ok (.value (.map (some w.heap.size))) (w.alloc (.map #[] 0))) : LitStep P ops Q a0 enc tab w0 0 o := by
  intro a w hI hN _ _
  rw [if_pos (by simp [Region.wanted, hg])]
  obtain ⟨d, hd⟩ := hd
  unfold Oper.wp
  rw [h]
  have hz := hN rfl
  have hm0 : HoldsM enc (w.alloc (.map #[] 0)) w0.heap.size [] := ⟨#[], 0, by rw [← hz]; exact heap_alloc_new w _, rfl, by simp, by simp⟩
  refine ⟨_, rfl, ⟨hI.1.alloc _, .inr (by simp [hz])⟩, ⟨fun p hp => ?_, fun h => absurd rfl h, fun _ => ⟨[], hm0, by simp⟩⟩, ?_⟩
  · obtain ⟨m, hm, hp⟩ := hp
    exact ⟨m, hm.upd ((Upd.refl [] w).alloc _) (by simp), hp⟩
  · rw [if_neg (by rw [hd]; simp)]
    exact ⟨by show Value.map (some w.heap.size) = _; rw [hz], [], hm0, by simp⟩
theorem lit_pure {tab : List (κ × Value)} {i : Nat} (hi : i ≠ 0) {o : Oper} (x : Value) (hg : o.guard = none) (hd : ∃ d, o.dst = some d) (hx : ∀ w, litD enc tab w0.heap.size i x w)
    (h : ∀ (a : Act) (w : World), (∀ e ∈ o.after, Region.binds .any e = true → litD enc tab w0.heap.size e.on (leftAt ops a e.on) w) → (execOp a.eval o).run P w = .ok (.value x) w) : LitStep P ops Q a0 enc tab w0 i o := by
  intro a w hI hN hF hD
  rw [if_pos (by simp [Region.wanted, hg])]
  obtain ⟨d, hd⟩ := hd
  unfold Oper.wp
  rw [h a w hD]
  exact ⟨x, rfl, hI, ⟨fun _ hp => hp, fun _ => rfl, fun h => h⟩, by rw [if_neg (by rw [hd]; simp)]; exact hx w⟩
theorem lit_put {tab : List (κ × Value)} (hinj : ∀ a b, enc a = enc b → a = b) (hf : ∀ p ∈ tab, ∀ q ∈ tab, p.1 = q.1 → p.2 = q.2) (kl : KeyEnc κ P K enc) (hT : P.underlying T = some (.map K E)) (j : Nat) {o : Oper} (k : κ) (v : Value) (hj : tab[j]? = some (k, v)) (hg : o.guard = none) (hd : o.dst = none)
    (h0 : ∃ e ∈ o.after, Region.binds .any e = true ∧ e.on = 0)
    (h : ∀ (a : Act) (w : World), (∀ e ∈ o.after, Region.binds .any e = true → litD enc tab w0.heap.size e.on (leftAt ops a e.on) w) → execOp a.eval o = (do Instr.mapUpdate T (.map (some w0.heap.size)) (enc k) v; pure .skip)) : LitStep P ops Q a0 enc tab w0 (2 * j + 2) o := by
  intro a w hI hN hF hD
  rw [if_pos (by simp [Region.wanted, hg])]
  have hI2 : LitM enc tab w0.heap.size w := by
    obtain ⟨e, he, hb, h0⟩ := h0
    have := hD e he hb
    rw [h0] at this
    exact this.2
  obtain ⟨m, hm, hsub⟩ := hI2
  have hmem : (k, v) ∈ tab := List.mem_of_getElem? hj
  obtain ⟨w', m', hrun, hm', hor, hkv, hu, hsz⟩ := hm.put kl hT k v (fun p hp hk => hf p (hsub p hp) (k, v) hmem hk)
  have hsub' : ∀ p ∈ m', p ∈ tab := by
    intro p hp
    rcases hor with rfl | rfl
    · exact hsub p hp
    · rcases List.mem_append.1 hp with hp | hp
      · exact hsub p hp
      · simp at hp; subst hp; exact hmem
  unfold Oper.wp
  rw [h a w hD]
  simp only [Sem.run_bind, hrun, Result.andThen_ok, Sem.run_pure, Oper.upon]
  refine ⟨undef, rfl, ⟨hI.1.trans' hu (fun x hx => .inr (by simp at hx; omega)), by rw [hsz]; exact hI.2⟩, ⟨fun p hp => ?_, fun _ => hsz, fun _ => ⟨m', hm', hsub'⟩⟩, ?_⟩
  · obtain ⟨m1, hm1, hp⟩ := hp
    rw [HoldsM.inj hinj hm1 hm] at hp
    refine ⟨m', hm', ?_⟩
    rcases hor with rfl | rfl
    · exact hp
    · exact List.mem_append_left _ hp
  · have hlt : j < tab.length := (List.getElem?_eq_some_iff.1 hj).1
    rw [if_pos hd]
    show (if 2 * tab.length ≤ 2 * j + 1 then _ else _)
    rw [if_neg (by omega), show (2 * j + 1) / 2 = j by omega, hj]
    simp only
    rw [if_neg (by omega)]
    exact ⟨m', hm', hkv⟩
theorem lit_end {tab : List (κ × Value)} (hinj : ∀ a b, enc a = enc b → a = b) {w : World} {vals : Nat → Value} (n : Nat) (hn : 2 * tab.length < n) (h : ∀ i, i < n → litD enc tab w0.heap.size i (vals i) w) :
    TabM enc w w0.heap.size tab ∧ ∀ i, i < n → 2 * tab.length < i → vals i = .map (some w0.heap.size) := by
  obtain ⟨-, m, hm, hsub⟩ := h 0 (by omega)
  refine ⟨⟨m, hm, hsub, fun p hp => ?_⟩, fun i hi h2 => ?_⟩
  · obtain ⟨j, hj⟩ := List.mem_iff_getElem?.1 hp
    have hlt : j < tab.length := (List.getElem?_eq_some_iff.1 hj).1
    have h3 : (if 2 * tab.length ≤ 2 * j + 1 then _ else _) := h (2 * j + 2) (by omega)
    rw [if_neg (by omega), show (2 * j + 1) / 2 = j by omega, hj] at h3
    simp only at h3
    rw [if_neg (by omega)] at h3
    obtain ⟨m1, hm1, hp1⟩ := h3
    rwa [HoldsM.inj hinj hm1 hm] at hp1
  · match i, hi, h2 with
    | i + 1, hi, h2 =>
      have h3 : (if 2 * tab.length ≤ i then _ else _) := h (i + 1) hi
      rwa [if_pos (by omega)] at h3
/-- A map literal's region: the steps, and what is left. -/
theorem wp_region_lit {id : Nat} {tab : List (κ × Value)} (hinj : ∀ a b, enc a = enc b → a = b)
    (hm : P.follows .mixedOrders = true) (ht : tidy ops = true) (hin : (ops.all fun o => match o.dst with | some d => decide (d < a0.tmps.size) | none => true) = true)
    (hn : 2 * tab.length < ops.size)
    (hs : StepsN P ops Q a0 (litD enc tab w0.drew.heap.size) (litI w0.drew) (litN w0.drew) (litR enc tab w0.drew.heap.size) 0 ops.toList)
    (hend : ∀ vals w, Upd [] w0 w → TabM enc w w0.heap.size tab → (∀ i, i < ops.size → 2 * tab.length < i → vals i = .map (some w0.heap.size)) → Q .normal (putAll vals 0 ops.toList a0) w) : (Code.region id ops true).wp P Q a0 w0 := by
  refine wp_region_relyN (litD enc tab w0.drew.heap.size) (litI w0.drew) (litN w0.drew) (litR enc tab w0.drew.heap.size) hm ht hin [] ?_ ?_ ?_ ?_ ⟨Upd.refl _ _, .inl rfl⟩ hs ?_
  · rfl
  · intro i j v w w' _ _ h hR
    exact litD_keep h hR
  · intro i j w w' hne _ h hR hj
    subst hj
    rw [hR.2.1 hne.symm]; exact h rfl
  · intro j _; rfl
  · intro vals w hI hD
    have := lit_end (w0 := w0.drew) hinj ops.size hn hD
    exact hend vals w hI.1.undrew this.1 this.2
end
end Go.Proofs.Ytcplhlokbnaabaa
