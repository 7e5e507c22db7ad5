/- A packet as it came in. -/
import Derived.Test.YthkfgjmifoeljaaGreatOptsIn
import Derived.Test.YthkfgjmifoeljaaGreatOptD
import Derived.Lib.SmallJoins
namespace Go.Proofs.YthkfgjmifoeljaaGreat
open Go.RowKit Go.ChangeShapes Go.WideShapes
set_option maxRecDepth 100000

theorem packet_in {H : Type} {enc : TypeId × Value → H} {W : World} {v : Value} {d : DataW H} {p : List MemPlace} {base : Nat}
    (h : DataW.Trod enc Tryz.prog W 0 (fun _ => true) true 24 v d p) (o : Value.okWide Tryz.prog W .any base 24 v) (hw : Wt Tryz.prog 24 d) :
    ∃ (x : Pk) (u : Value), v = x.val u ∧ TgsAt W u x.opts ∧ (∀ t ∈ x.opts, t.s.size ≤ 140737488355328) ∧ x.data.size ≤ 140737488355328 := by
  obtain ⟨c0, c1, c2, c3, y0, y1, y2, y3, n, rfl, rfl, rfl, g0, g1, g2, g3⟩ := Joins.open_agg4 Tryz.underlying24 (by kernel_rfl) (by kernel_rfl) o h
  obtain ⟨a0, e0, _, _⟩ := DataW.trod_int Tryz.underlying3 g0
  obtain ⟨a1, e1, _, _⟩ := DataW.trod_int Tryz.underlying3 g1
  obtain ⟨a3, e3, h3, _⟩ := DataW.trod_string Tryz.underlying9 g3
  obtain ⟨l, hl, hls⟩ := opts_cell g2 (hw.part Tryz.underlying24 (i := 2) (d := y2.1) rfl rfl)
  simp only [List.cons.injEq, and_true] at e0 e1 e3
  subst e0 e1 e3
  refine ⟨⟨a0, a1, l, a3⟩, c2, rfl, hl, hls, ?_⟩
  have h4 := hw.part Tryz.underlying24 (i := 3) (d := y3.1) rfl rfl
  rw [h3] at h4
  exact Nat.le_trans h4.string reach_le
end Go.Proofs.YthkfgjmifoeljaaGreat
