/- A packet as it came in. -/
import Derived.Test.YtomnnnjahpoggaaGreatTagsIn
import Derived.Test.YtomnnnjahpoggaaGreatTagB
import Derived.Lib.SmallJoins
namespace Go.Proofs.YtomnnnjahpoggaaGreat
open Go.RowKit Go.ChangeShapes Go.WideShapes
set_option maxRecDepth 100000

theorem disc_in {H : Type} {enc : TypeId × Value → H} {W : World} {v : Value} {d : DataW H} {p : List MemPlace} {base : Nat}
    (h : DataW.Trod enc Tryz.prog W 0 (fun _ => true) true 23 v d p) (o : Value.okWide Tryz.prog W .any base 23 v) (hw : Wt Tryz.prog 23 d) :
    ∃ x : Dc, v = x.val ∧ x.data.size ≤ 140737488355328 := by
  obtain ⟨c0, c1, c2, y0, y1, y2, n, rfl, rfl, rfl, g0, g1, g2⟩ := Joins.open_agg3 Tryz.underlying23 (by kernel_rfl) (by kernel_rfl) o h
  obtain ⟨a0, e0, _, _⟩ := DataW.trod_int Tryz.underlying3 g0
  obtain ⟨a1, e1, _, _⟩ := DataW.trod_int Tryz.underlying3 g1
  obtain ⟨a2, e2, h2, _⟩ := DataW.trod_string Tryz.underlying9 g2
  simp only [List.cons.injEq, and_true] at e0 e1 e2
  subst e0 e1 e2
  refine ⟨⟨a0, a1, a2⟩, rfl, ?_⟩
  have h3 := hw.part Tryz.underlying23 (i := 2) (d := y2.1) rfl rfl
  rw [h2] at h3
  exact Nat.le_trans h3.string reach_le
end Go.Proofs.YtomnnnjahpoggaaGreat
