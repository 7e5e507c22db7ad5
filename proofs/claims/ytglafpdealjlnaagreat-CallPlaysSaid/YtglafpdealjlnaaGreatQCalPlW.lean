/- The walk of CallPlays at the arguments as they came in. -/
import Derived.Test.YtglafpdealjlnaaGreatQCalPl
import Derived.Test.YtglafpdealjlnaaGreatQCalPlIn
namespace Go.Proofs.YtglafpdealjlnaaGreat
open Go.RowKit Go.ChangeShapes Go.WideShapes
set_option maxRecDepth 100000

theorem callPlays_walk {H : Type} {enc : TypeId × Value → H} (a0 : Int) (_ : (Lit.int .i64 a0).wf = true) (a1 : Int) (_ : (Lit.int .i64 a1).wf = true) (a2 : Bool) {v3 : Value} {d0 d1 d2 d3 : DataW H} {p3 : List MemPlace} {W : World} {base : Nat}
    (h3 : DataW.Trod enc Tryz.prog W 0 (fun _ => true) true 71 v3 d3 p3) (o3 : Value.okWide Tryz.prog W .any base 71 v3)
    (sz : (DataW.weightsEach Tryz.prog [3, 3, 4, 71] [d0, d1, d2, d3]).all (· ≤ reachBytes) = true) :
    Calls Tryz.prog 4 #[.int .i64 a0, .int .i64 a1, .bool a2, v3] W fun e w' => e = .returned (.bool true) ∧ Below W.heap.size W w' := by
  obtain ⟨l, hl, hok⟩ := cops_in h3 o3 (wt_each sz (j := 3) rfl rfl)
  exact (callPlays_any a0 a1 a2 l v3 W hl hok).mono fun e w' ⟨he, hu⟩ => ⟨he, hu.below⟩
end Go.Proofs.YtglafpdealjlnaaGreat
