/- A loop over a map in whatever order: what is surely still to come, and what has come. No program in sight. -/
import Derived.Maps.RangeRun
import Derived.Test.YtglafpdealjlnaaGreatQRelyN
namespace Go.Proofs.YtglafpdealjlnaaGreat
open Go.RowKit Go.Maps
open Go.ChangeMaps (setBlock heap_setBlock_same heap_setBlock_other)
set_option linter.unusedSimpArgs false
set_option linter.unusedVariables false

/-- Block r ranges over the map at g, whose pairs are of tab; those for which S holds are still to come; n are left. -/
def IterM {κ : Type} (enc : κ → Value) (w : World) (r g : Nat) (tab : List (κ × Value)) (S : κ × Value → Prop) (n : Nat) : Prop :=
  ∃ es clock seen since c0, w.heap[r]? = some (.mapIter (some g) since seen c0) ∧ w.heap[g]? = some (.map es clock) ∧ (∀ x ∈ es.toList, x.born < since) ∧ (since ≤ c0 ∧ since ≤ clock) ∧ (es.toList.map (·.born)).Nodup ∧
    (leftOf es seen).size = n ∧ (∀ e ∈ (leftOf es seen).toList, ∃ p ∈ tab, e.key = enc p.1 ∧ e.val = p.2) ∧ (∀ p ∈ tab, S p → ∃ e ∈ (leftOf es seen).toList, e.key = enc p.1 ∧ e.val = p.2)
section
variable {κ : Type} {P : Program} {K E T : TypeId} {enc : κ → Value} {w w' : World} {r g n : Nat} {tab : List (κ × Value)} {S : κ × Value → Prop}
theorem set_keeps {w : World} {r : Nat} {o0 : Obj} (hr : w.heap[r]? = some o0) (o : Obj) : (setBlock w r o).heap[r]? = some o := by
  have hlt : r < w.heap.size := by
    rcases Nat.lt_or_ge r w.heap.size with h | h
    · exact h
    · rw [Array.getElem?_eq_none h] at hr; cases hr
  simp [setBlock, hlt]
theorem set_other {r : Nat} (w : World) (o : Obj) {i : Nat} (h : i ≠ r) : (setBlock w r o).heap[i]? = w.heap[i]? := by
  simp [setBlock, Array.getElem?_setIfInBounds, Ne.symm h]
theorem IterM.upd {F : List Nat} (h : IterM enc w r g tab S n) (hu : Upd F w w') (hr : r ∉ F) (hg : g ∉ F) : IterM enc w' r g tab S n := by
  obtain ⟨es, clock, seen, since, c0, h1, h2, h3⟩ := h
  have lt : ∀ (i : Nat) (o : Obj), w.heap[i]? = some o → i < w.heap.size := by
    intro i o hi
    rcases Nat.lt_or_ge i w.heap.size with h | h
    · exact h
    · rw [Array.getElem?_eq_none h] at hi; cases hi
  exact ⟨es, clock, seen, since, c0, (hu.block r (lt r _ h1) hr).trans h1, (hu.block g (lt g _ h2) hg).trans h2, h3⟩
theorem IterM.start {m : List (κ × Value)} (h : HoldsM enc w g m) (h1 : ∀ p ∈ m, p ∈ tab) (h2 : ∀ p ∈ tab, p ∈ m) (hT : P.underlying T = some (.map K E)) :
    ∃ w' n, (Instr.range T (.map (some g))).run P w = .ok (.pointer (some ⟨w.heap.size, 0, none⟩)) w' ∧ Upd [] w w' ∧ w'.heap.size = w.heap.size + 1 ∧ IterM enc w' w.heap.size g tab (fun _ => True) n := by
  obtain ⟨es, clock, hb, hes, hst⟩ := h
  refine ⟨w.alloc (.mapIter (some g) clock #[] clock), (leftOf es #[]).size, ?_, (Upd.refl _ _).alloc _, by simp, ?_⟩
  · simp [Instr.range, run_underlying hT, getObj, Sem.run, hb, Result.andThen]
  · have hg : g < w.heap.size := by
      rcases Nat.lt_or_ge g w.heap.size with h | h
      · exact h
      · rw [Array.getElem?_eq_none h] at hb; cases hb
    have hl : leftOf es #[] = es := by unfold leftOf; simp
    refine ⟨es, clock, #[], clock, clock, heap_alloc_new w _, (Below.heap_alloc w _ g hg).trans hb, hst.1, ⟨Nat.le_refl _, Nat.le_refl _⟩, hst.2, rfl, ?_, ?_⟩
    · intro e he
      rw [hl] at he
      have : (e.key, e.val) ∈ m.map (fun p => (enc p.1, p.2)) := by rw [← hes]; exact List.mem_map.2 ⟨e, he, rfl⟩
      obtain ⟨p, hp, hpe⟩ := List.mem_map.1 this
      simp only [Prod.mk.injEq] at hpe
      exact ⟨p, h1 p hp, hpe.1.symm, hpe.2.symm⟩
    · intro p hp _
      rw [hl]
      have : (enc p.1, p.2) ∈ es.toList.map (fun e => (e.key, e.val)) := by rw [hes]; exact List.mem_map.2 ⟨p, h2 p hp, rfl⟩
      obtain ⟨e, he, hee⟩ := List.mem_map.1 this
      simp only [Prod.mk.injEq] at hee
      exact ⟨e, he, hee.1, hee.2⟩
theorem IterM.next (h : IterM enc w r g tab S n) (hinj : ∀ a b, enc a = enc b → a = b) (ty : TypeId) :
    ((∀ p ∈ tab, ¬ S p) ∧ (Instr.next (.pointer (some ⟨r, 0, none⟩)) false ty).run P w = .ok (.tuple #[.bool false]) w) ∨
    ∃ p ∈ tab, ∃ w' n', (Instr.next (.pointer (some ⟨r, 0, none⟩)) false ty).run P w = .ok (.tuple #[.bool true, enc p.1, p.2]) w' ∧ n' < n ∧ Upd [r] w w' ∧ w'.heap.size = w.heap.size ∧
      IterM enc w' r g tab (fun q => S q ∧ q ≠ p) n' ∧ (Instr.entry (.pointer (some ⟨r, 0, none⟩))).run P w' = .ok (.tuple #[enc p.1, p.2]) w' := by
  obtain ⟨es, clock, seen, since, c0, hr, hg, h1, h2, h3, h4, h5, h6⟩ := h
  rcases run_next_at (P := P) w ty r g since c0 seen es clock hr hg h1 h2.1 with ⟨h0, hrun⟩ | ⟨e, he, w1, hw1, hrun⟩
  · left
    refine ⟨fun p hp hs => ?_, hrun⟩
    obtain ⟨e, he, _⟩ := h6 p hp hs
    have : (leftOf es seen).toList = [] := by
      have : (leftOf es seen) = #[] := Array.eq_empty_of_size_eq_zero h0
      rw [this]
    rw [this] at he
    cases he
  · right
    obtain ⟨p, hp, hek, hev⟩ := h5 e he
    have hees : e ∈ es.toList := by
      unfold leftOf at he
      simp at he ⊢
      exact he.1
    have hr1 : w1.heap[r]? = some (.mapIter (some g) since seen c0) := by rcases hw1 with rfl | rfl <;> exact hr
    have hg1 : w1.heap[g]? = some (.map es clock) := by rcases hw1 with rfl | rfl <;> exact hg
    have hne : g ≠ r := by
      rintro rfl
      rw [hr] at hg
      injection hg with hg
      cases hg
    have hb : (setBlock w1 r (.mapIter (some g) since (seen.push e.born) clock)).heap[r]? = some (.mapIter (some g) since (seen.push e.born) clock) := set_keeps hr1 _
    have hb2 : (setBlock w1 r (.mapIter (some g) since (seen.push e.born) clock)).heap[g]? = some (.map es clock) := (set_other (r := r) w1 _ hne).trans hg1
    have hen := run_entry_at (P := P) _ r g since seen es clock e hb hb2 hees h3
    rw [hek, hev] at hen hrun
    have hleft : ∀ x, x ∈ (leftOf es (seen.push e.born)).toList ↔ x ∈ (leftOf es seen).toList ∧ x.born ≠ e.born := by
      intro x
      unfold leftOf
      simp only [Array.mem_toList_iff, Array.mem_filter, Array.contains_push, Bool.not_or, Bool.and_eq_true, Bool.not_eq_true', beq_eq_false_iff_ne]
      constructor
      · rintro ⟨a, b, c⟩; first | exact ⟨⟨a, b⟩, fun h => c h⟩ | exact ⟨⟨a, c⟩, fun h => b h⟩ | exact ⟨⟨a, b⟩, fun h => c h.symm⟩ | exact ⟨⟨a, c⟩, fun h => b h.symm⟩
      · rintro ⟨⟨a, b⟩, c⟩; first | exact ⟨a, b, fun h => c h⟩ | exact ⟨a, fun h => c h, b⟩ | exact ⟨a, b, fun h => c h.symm⟩ | exact ⟨a, fun h => c h.symm, b⟩
    refine ⟨p, hp, _, (leftOf es (seen.push e.born)).size, hrun, ?_, ?_, ?_, ⟨es, clock, seen.push e.born, since, clock, hb, hb2, h1, ?_, h3, rfl, ?_, ?_⟩, hen⟩
    · rw [← h4]
      have hsub : (leftOf es (seen.push e.born)) = (leftOf es seen).filter (fun x => x.born != e.born) := by
        unfold leftOf
        rw [Array.filter_filter]
        congr 1
        funext x
        simp only [Array.contains_push]
        cases h : seen.contains x.born <;> cases h' : (x.born == e.born) <;> simp_all [bne]
      rw [hsub]
      have hlt : ((leftOf es seen).toList.filter (fun x => x.born != e.born)).length < (leftOf es seen).toList.length := by
        rw [List.length_filter_lt_length_iff_exists]
        exact ⟨e, he, by simp⟩
      rw [← Array.toList_filter, Array.length_toList, Array.length_toList] at hlt
      exact hlt
    · have hw : w1.os = w.os ∧ w1.tape = w.tape ∧ w1.output = w.output ∧ w1.heap = w.heap := by rcases hw1 with rfl | rfl <;> exact ⟨rfl, rfl, rfl, rfl⟩
      refine ⟨hw.1, hw.2.1, hw.2.2.1, by simp [setBlock, hw.2.2.2], fun i _ hi => ?_⟩
      rw [set_other w1 _ (fun e => hi (by rw [e]; simp)), hw.2.2.2]
    · rcases hw1 with rfl | rfl <;> simp [setBlock]
    · exact ⟨h2.2, h2.2⟩
    · intro x hx
      exact h5 x ((hleft x).1 hx).1
    · rintro q hq ⟨hs, hqp⟩
      obtain ⟨x, hx, hxk, hxv⟩ := h6 q hq hs
      refine ⟨x, (hleft x).2 ⟨hx, fun hb => ?_⟩, hxk, hxv⟩
      -- the same stamp: the same entry
      have hxes : x ∈ es.toList := by
        unfold leftOf at hx
        simp at hx ⊢
        exact hx.1
      have : x = e := by
        have hf1 := find_born e es.toList h3 hees
        have hf2 := find_born x es.toList h3 hxes
        rw [hb] at hf2
        rw [hf1] at hf2
        injection hf2 with hf2
        exact hf2.symm
      subst this
      apply hqp
      have h1 : enc q.1 = enc p.1 := hxk.symm.trans hek
      have h2 : q.2 = p.2 := hxv.symm.trans hev
      exact Prod.ext (hinj _ _ h1) h2
end
end Go.Proofs.YtglafpdealjlnaaGreat
