/- A call beside a chain: it gives a known value and keeps what holds. No program in sight. -/
import Derived.Test.YtdccmlpikjbcaaaGreatRes
namespace Go.Proofs.YtdccmlpikjbcaaaGreat
open Go.RowKit
set_option linter.unusedSimpArgs false
set_option linter.unusedVariables false
section
variable {P : Program} {ops : Array Oper} {Q : Exit → Act → World → Prop} {a0 : Act} {V : Nat → Value → Prop} {chain : List Nat} {A : List Value → World → Prop} {i : Nat} {o : Oper} {b : Nat × Nat}
theorem chain_beside (x : Value) (hg : WantedBy ops V o) (hd : ∃ d, o.dst = some d) (hnc : chain.contains i = false) (hv : V i x)
    (h : ∀ a w k, b.1 ≤ k → k ≤ b.2 → A ((chain.take k).map (leftAt ops a)) w → (∀ t, freeAt ops i t = true → a.eval (.tmp t) = a0.eval (.tmp t)) → (∀ e ∈ o.after, Region.binds .any e = true → V e.on (leftAt ops a e.on)) →
      ∃ f args, (execOp a.eval o).run P w = .ok (.enter f args) w ∧ Calls P f args w fun e w' => e = .returned x ∧ A ((chain.take k).map (leftAt ops a)) w') : StepC P ops Q a0 V chain A i o b := by
  intro a w k h1 h2 hA hF hD
  refine ⟨hg.wanted hD, ?_⟩
  obtain ⟨d, hd⟩ := hd
  obtain ⟨f, args, r1, r2⟩ := h a w k h1 h2 hA hF hD
  unfold Oper.wp
  rw [r1]
  refine Calls.mono r2 ?_
  rintro e w' ⟨rfl, r4⟩
  exact ⟨x, rfl, by rw [hd]; simpa using hv, by rw [hnc]; simpa using r4⟩
end
/-- A thing is made, then written: a chain of two operations. -/
def newA (w0 : World) (t : TypeId) (z cs : Array Value) (vs : List Value) (W : World) : Prop := match vs with
  | [] => Upd [] w0 W
  | [p] => Upd [] w0 W ∧ ∃ g, w0.heap.size ≤ g ∧ p = .pointer (some ⟨g, 0, none⟩) ∧ Blk W g t z
  | [p, _] => Upd [] w0 W ∧ ∃ g, w0.heap.size ≤ g ∧ p = .pointer (some ⟨g, 0, none⟩) ∧ Blk W g t cs
  | _ => False
end Go.Proofs.YtdccmlpikjbcaaaGreat
