/- The walk of TagTells at the arguments as they came in. -/
import Derived.Test.YtomnnnjahpoggaaGreatTagTells
import Derived.Test.YtomnnnjahpoggaaGreatDiscIn
namespace Go.Proofs.YtomnnnjahpoggaaGreat
open Go.RowKit Go.ChangeShapes Go.WideShapes
set_option maxRecDepth 100000

theorem tagTells_walk {H : Type} {enc : TypeId × Value → H} {v0 v1 v2 v3 : Value} {d0 d1 d2 d3 d4 : DataW H} {p0 p1 p2 p3 : List MemPlace} {W : World} {base : Nat}
    (h0 : DataW.Trod enc Tryz.prog W 0 (fun _ => true) true 23 v0 d0 p0) (o0 : Value.okWide Tryz.prog W .any base 23 v0)
    (h1 : DataW.Trod enc Tryz.prog W 0 (fun _ => true) true 24 v1 d1 p1) (o1 : Value.okWide Tryz.prog W .any base 24 v1)
    (h2 : DataW.Trod enc Tryz.prog W 0 (fun _ => true) true 24 v2 d2 p2) (o2 : Value.okWide Tryz.prog W .any base 24 v2)
    (h3 : DataW.Trod enc Tryz.prog W 0 (fun _ => true) true 9 v3 d3 p3) (o3 : Value.okWide Tryz.prog W .any base 9 v3)
    (a : Int) (_ : (Lit.int .i64 a).wf = true)
    (sz : (DataW.weightsEach Tryz.prog [23, 24, 24, 9, 3] [d0, d1, d2, d3, d4]).all (· ≤ reachBytes) = true) :
    Calls Tryz.prog 3 #[v0, v1, v2, v3, .int .i64 a] W fun e w' => e = .returned (.bool true) ∧ Below W.heap.size W w' := by
  obtain ⟨d, rfl, hd⟩ := disc_in h0 o0 (wt_each sz (j := 0) rfl rfl)
  obtain ⟨l, hl, hls⟩ := tags_in h1 o1 (wt_each sz (j := 1) rfl rfl)
  obtain ⟨m, hm, hms⟩ := tags_in h2 o2 (wt_each sz (j := 2) rfl rfl)
  obtain ⟨s, rfl, hs⟩ := str_in h3 o3 (wt_each sz (j := 3) rfl rfl)
  exact (tagTells_any d l m v1 v2 s a W hl hm hls hms hd hs).mono fun e w' ⟨he, hu⟩ => ⟨he, hu.below⟩
end Go.Proofs.YtomnnnjahpoggaaGreat
