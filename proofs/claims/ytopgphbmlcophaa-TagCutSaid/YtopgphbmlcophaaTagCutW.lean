/- The walk of TagCut at the arguments as they came in. -/
import Derived.Test.YtopgphbmlcophaaTagCut
import Derived.Test.YtopgphbmlcophaaDiscIn
namespace Go.Proofs.Ytopgphbmlcophaa
open Go.RowKit Go.ChangeShapes Go.WideShapes

theorem tagCut_walk {H : Type} {enc : TypeId × Value → H} {v0 v1 : Value} {d0 d1 d2 : DataW H} {p0 p1 : List MemPlace} {W : World} {base : Nat}
    (h0 : DataW.Trod enc Try.prog W 0 (fun _ => true) true 30 v0 d0 p0) (o0 : Value.okWide Try.prog W .any base 30 v0)
    (h1 : DataW.Trod enc Try.prog W 0 (fun _ => true) true 22 v1 d1 p1) (o1 : Value.okWide Try.prog W .any base 22 v1)
    (a : Int) (_ : (Lit.int .i64 a).wf = true)
    (sz : (DataW.weightsEach Try.prog [30, 22, 3] [d0, d1, d2]).all (· ≤ reachBytes) = true) :
    Calls Try.prog 5 #[v0, v1, .int .i64 a] W fun e w' => e = .returned (.bool true) ∧ Below W.heap.size W w' := by
  obtain ⟨d, rfl, hd⟩ := disc_in h0 o0 (wt_each sz (j := 0) rfl rfl)
  obtain ⟨l, hl, hls⟩ := tags_in h1 o1 (wt_each sz (j := 1) rfl rfl)
  exact (tagCut_any d l v1 a W hl hls hd).mono fun e w' ⟨he, hu⟩ => ⟨he, hu.below⟩
end Go.Proofs.Ytopgphbmlcophaa
