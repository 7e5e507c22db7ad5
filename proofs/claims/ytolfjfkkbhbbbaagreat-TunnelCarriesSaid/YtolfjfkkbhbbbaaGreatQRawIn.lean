/- Slices of texts and of numbers as they came in. -/
import Derived.Test.YtolfjfkkbhbbbaaGreatProg
import Derived.Test.YtolfjfkkbhbbbaaGreatQWeigh
import Derived.Test.YtolfjfkkbhbbbaaGreatQMsgA
namespace Go.Proofs.YtolfjfkkbhbbbaaGreat
open Go.RowKit Go.ChangeShapes Go.WideShapes
set_option linter.unusedSimpArgs false
set_option linter.unusedVariables false
set_option maxRecDepth 20000

/-- A slice of texts. -/
def TextsAt (w : World) (v : Value) (l : List ByteArray) : Prop :=
  ∃ ao cap, v = .slice ao l.length cap ∧ l.length ≤ cap ∧ cap ≤ maxLen ∧ ∀ i a, l[i]? = some a → ∃ q, ao = some q ∧ w.cell? (q.add i) = some (.string a)
theorem TextsAt.upd {w w' : World} {v : Value} {l : List ByteArray} (h : TextsAt w v l) (hu : Upd [] w w') : TextsAt w' v l := by
  obtain ⟨ao, cap, rfl, h1, h2, h3⟩ := h
  refine ⟨ao, cap, rfl, h1, h2, fun i t ht => ?_⟩
  obtain ⟨q, rfl, k⟩ := h3 i t ht
  exact ⟨q, rfl, (hu.cell (cell_lt' k) (by simp)).trans k⟩
theorem texts_in {H : Type} {enc : TypeId × Value → H} {W : World} {v : Value} {d : DataW H} {p : List MemPlace} {base : Nat}
    (h : DataW.Trod enc Tryz.prog W 0 (fun _ => true) true 41 v d p) (o : Value.okWide Tryz.prog W .any base 41 v) :
    ∃ l, TextsAt W v l ∧ ∀ s ∈ l, s.size ≤ maxLen := by
  obtain ⟨a, len, cap, rfl⟩ := okWide_slice Tryz.underlying41 o
  rcases slice_came Tryz.underlying41 h with ⟨rfl, rfl, rfl⟩ | ⟨q, rfl, hl, hm, hel⟩
  · exact ⟨[], ⟨none, 0, rfl, by simp, by simp [maxLen], by simp⟩, by simp⟩
  have hn : Tryz.prog.cellsOf 9 = 1 := by kernel_rfl
  rw [hn] at hel
  obtain ⟨l, hll, hp⟩ := choose_list (p := fun i (t : ByteArray) => W.cell? (q.add i) = some (.string t) ∧ t.size ≤ maxLen) (fun i hi => by
    obtain ⟨cs, n, x, hc, ht⟩ := hel i hi
    obtain ⟨s, rfl, _, hs⟩ := DataW.trod_string Tryz.underlying9 ht
    have c0 := cell_of_cells hc 0 (by omega)
    rw [Nat.mul_one] at c0
    exact ⟨s, c0, hs⟩)
  refine ⟨l, ⟨some q, cap, by rw [hll], by omega, hm, fun i t ht => ⟨q, rfl, (hp i t ht).1⟩⟩, fun t ht => ?_⟩
  obtain ⟨i, hi⟩ := List.mem_iff_getElem?.1 ht
  exact (hp i t hi).2
theorem int_range {x : Int} (h : (Lit.int .i64 x).wf = true) : -9223372036854775808 ≤ x ∧ x < 9223372036854775808 := by
  have h1 : IntKind.i64.min = -9223372036854775808 := by decide
  have h2 : IntKind.i64.max = 9223372036854775807 := by decide
  simp [Lit.wf, h1, h2] at h
  omega
theorem ints_in {H : Type} {enc : TypeId × Value → H} {W : World} {v : Value} {d : DataW H} {p : List MemPlace} {base : Nat}
    (h : DataW.Trod enc Tryz.prog W 0 (fun _ => true) true 33 v d p) (o : Value.okWide Tryz.prog W .any base 33 v) :
    ∃ l, IntsAt W v l ∧ ∀ x ∈ l, -9223372036854775808 ≤ x ∧ x < 9223372036854775808 := by
  obtain ⟨a, len, cap, rfl⟩ := okWide_slice Tryz.underlying33 o
  rcases slice_came Tryz.underlying33 h with ⟨rfl, rfl, rfl⟩ | ⟨q, rfl, hl, hm, hel⟩
  · exact ⟨[], IntsAt.nil _, by simp⟩
  have hn : Tryz.prog.cellsOf 3 = 1 := by kernel_rfl
  rw [hn] at hel
  obtain ⟨l, hll, hp⟩ := choose_list (p := fun i (t : Int) => W.cell? (q.add i) = some (.int .i64 t) ∧ (Lit.int .i64 t).wf = true) (fun i hi => by
    obtain ⟨cs, n, x, hc, ht⟩ := hel i hi
    obtain ⟨s, rfl, _, hs⟩ := DataW.trod_int Tryz.underlying3 ht
    have c0 := cell_of_cells hc 0 (by omega)
    rw [Nat.mul_one] at c0
    exact ⟨s, c0, hs⟩)
  refine ⟨l, ⟨some q, cap, by rw [hll], by omega, hm, fun i t ht => ⟨q, rfl, (hp i t ht).1⟩⟩, fun t ht => ?_⟩
  obtain ⟨i, hi⟩ := List.mem_iff_getElem?.1 ht
  exact int_range (hp i t hi).2
end Go.Proofs.YtolfjfkkbhbbbaaGreat
