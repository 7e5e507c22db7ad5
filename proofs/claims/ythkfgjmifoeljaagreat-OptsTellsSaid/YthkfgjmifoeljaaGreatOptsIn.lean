/- Options, packets and texts as they came in. -/
import Derived.Test.YthkfgjmifoeljaaGreatProg
import Derived.Test.YthkfgjmifoeljaaGreatWeigh
import Derived.Test.YthkfgjmifoeljaaGreatPairs
namespace Go.Proofs.YthkfgjmifoeljaaGreat
open Go.RowKit Go.ChangeShapes Go.WideShapes
set_option maxRecDepth 20000

theorem opts_core {H : Type} {enc : TypeId × Value → H} {W : World} {a : Option Addr} {len cap : Nat} {d : DataW H} {p : List MemPlace}
    (h : DataW.Trod enc Tryz.prog W 0 (fun _ => true) true 22 (.slice a len cap) d p) (hw : Wt Tryz.prog 22 d) :
    ∃ l, TgsAt W (.slice a len cap) l ∧ ∀ t ∈ l, t.s.size ≤ 140737488355328 := by
  rcases slice_came_wt Tryz.underlying22 h hw with ⟨rfl, rfl, rfl⟩ | ⟨q, rfl, hl, hm, hel⟩
  · exact ⟨[], TgsAt.nil _, by simp⟩
  have hn : Tryz.prog.cellsOf 67 = 2 := by kernel_rfl
  rw [hn] at hel
  obtain ⟨l, hll, hp⟩ := choose_list (p := fun i (t : Tg) => W.cell? (q.add (i * 2)) = some (.int .i64 t.k) ∧ W.cell? ⟨(q.add (i * 2)).block, (q.add (i * 2)).off + 1, none⟩ = some (.string t.s) ∧ t.s.size ≤ 140737488355328) (fun i hi => by
    obtain ⟨cs, n, x, hc, ht, hwx⟩ := hel i hi
    obtain ⟨k, hk, _⟩ := field_int 0 Tryz.underlying67 ht rfl Tryz.underlying3 (by kernel_rfl)
    obtain ⟨s, hs, hsz⟩ := field_string_wt 1 Tryz.underlying67 ht hwx rfl Tryz.underlying9 (by kernel_rfl)
    have c0 := cell_of_cells hc 0 (by omega)
    have c1 := cell_of_cells hc 1 (by omega)
    exact ⟨⟨k, s⟩, c0.trans hk, c1.trans hs, Nat.le_trans hsz reach_le⟩)
  refine ⟨l, ⟨some q, cap, by rw [hll], by omega, hm, fun i t ht => ?_⟩, fun t ht => ?_⟩
  · obtain ⟨h1, h2, h3⟩ := hp i t ht
    exact ⟨q, rfl, h1, h2⟩
  · obtain ⟨i, hi⟩ := List.mem_iff_getElem?.1 ht
    exact (hp i t hi).2.2
theorem opts_in {H : Type} {enc : TypeId × Value → H} {W : World} {v : Value} {d : DataW H} {p : List MemPlace} {base : Nat}
    (h : DataW.Trod enc Tryz.prog W 0 (fun _ => true) true 22 v d p) (o : Value.okWide Tryz.prog W .any base 22 v) (hw : Wt Tryz.prog 22 d) :
    ∃ l, TgsAt W v l ∧ ∀ t ∈ l, t.s.size ≤ 140737488355328 := by
  obtain ⟨a, len, cap, rfl⟩ := okWide_slice Tryz.underlying22 o
  exact opts_core h hw
theorem opts_cell {H : Type} {enc : TypeId × Value → H} {W : World} {n : Nat} {v : Value} {x : DataW H × List MemPlace}
    (h : DataW.trod enc Tryz.prog W 0 (fun _ => true) true n 22 [v] = some x) (hw : Wt Tryz.prog 22 x.1) :
    ∃ l, TgsAt W v l ∧ ∀ t ∈ l, t.s.size ≤ 140737488355328 := by
  rcases Go.Deep.open_slice Tryz.underlying22 h with ⟨h1, _⟩ | ⟨a, l, c, m, k, D, Pl, h1, _⟩
  all_goals
    simp only [List.cons.injEq, and_true] at h1
    subst h1
    exact opts_core ⟨n, by simpa [Value.cells] using h⟩ hw
theorem str_in {H : Type} {enc : TypeId × Value → H} {W : World} {v : Value} {d : DataW H} {p : List MemPlace} {base : Nat}
    (h : DataW.Trod enc Tryz.prog W 0 (fun _ => true) true 9 v d p) (o : Value.okWide Tryz.prog W .any base 9 v) (hw : Wt Tryz.prog 9 d) :
    ∃ s : ByteArray, v = .string s ∧ s.size ≤ 140737488355328 := by
  obtain ⟨s, rfl, rfl, rfl, _⟩ := Go.ChangeMaps.open_string Tryz.underlying9 o h
  exact ⟨s, rfl, Nat.le_trans hw.string reach_le⟩
end Go.Proofs.YthkfgjmifoeljaaGreat
