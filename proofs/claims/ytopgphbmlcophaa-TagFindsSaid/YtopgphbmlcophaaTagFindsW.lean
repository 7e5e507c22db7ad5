/- The walk of TagFinds at the arguments as they came in. -/
import Derived.Test.YtopgphbmlcophaaTagFinds
import Derived.Test.YtopgphbmlcophaaTagsIn
namespace Go.Proofs.Ytopgphbmlcophaa
open Go.RowKit Go.ChangeShapes Go.WideShapes

theorem tagFinds_walk {H : Type} {enc : TypeId × Value → H} {v0 v1 : Value} {d0 d1 d2 : DataW H} {p0 p1 : List MemPlace} {W : World} {base : Nat}
    (h0 : DataW.Trod enc Try.prog W 0 (fun _ => true) true 22 v0 d0 p0) (o0 : Value.okWide Try.prog W .any base 22 v0)
    (sz : (DataW.weightsEach Try.prog [22, 22, 3] [d0, d1, d2]).all (· ≤ reachBytes) = true)
    (h1 : DataW.Trod enc Try.prog W 0 (fun _ => true) true 22 v1 d1 p1) (o1 : Value.okWide Try.prog W .any base 22 v1)
    (_ : (DataW.weightsEach Try.prog [22, 22, 3] [d0, d1, d2]).all (· ≤ reachBytes) = true) (kind : Int) (_ : (Lit.int .i64 kind).wf = true) :
    Calls Try.prog 3 #[v0, v1, .int .i64 kind] W fun e w' => e = .returned (.bool true) ∧ Below W.heap.size W w' := by
  obtain ⟨l, hl, hls⟩ := tags_in h0 o0 (wt_each sz (j := 0) rfl rfl)
  obtain ⟨m, hm, hms⟩ := tags_in h1 o1 (wt_each sz (j := 1) rfl rfl)
  exact (tagFinds_any l m v0 v1 kind W hl hm hls hms).mono fun e w' ⟨he, hu⟩ => ⟨he, hu.below⟩
end Go.Proofs.Ytopgphbmlcophaa
