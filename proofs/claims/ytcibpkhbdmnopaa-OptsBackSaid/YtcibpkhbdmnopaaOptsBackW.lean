/- The walk of OptsBack at the arguments as they came in. -/
import Derived.Test.YtcibpkhbdmnopaaOptsBack
import Derived.Test.YtcibpkhbdmnopaaPacketIn
namespace Go.Proofs.Ytcibpkhbdmnopaa
open Go.RowKit Go.ChangeShapes Go.WideShapes

theorem optsBack_walk {H : Type} {enc : TypeId × Value → H} {v0 v1 : Value} {d0 d1 d2 : DataW H} {p0 p1 : List MemPlace} {W : World} {base : Nat}
    (h0 : DataW.Trod enc Try.prog W 0 (fun _ => true) true 36 v0 d0 p0) (o0 : Value.okWide Try.prog W .any base 36 v0)
    (h1 : DataW.Trod enc Try.prog W 0 (fun _ => true) true 9 v1 d1 p1) (o1 : Value.okWide Try.prog W .any base 9 v1)
    (cut : Int) (wc : (Lit.int .i64 cut).wf = true)
    (sz : (DataW.weightsEach Try.prog [36, 9, 3] [d0, d1, d2]).all (· ≤ reachBytes) = true) :
    Calls Try.prog 5 #[v0, v1, .int .i64 cut] W fun e w' => e = .returned (.bool true) ∧ Below W.heap.size W w' := by
  obtain ⟨x, u, rfl, hl, hls, hd⟩ := packet_in h0 o0 (wt_each sz (j := 0) rfl rfl)
  obtain ⟨s, rfl, hs⟩ := str_in h1 o1 (wt_each sz (j := 1) rfl rfl)
  exact (optsBack_any x u s cut W hl hls hd hs wc).mono fun e w' ⟨he, hu⟩ => ⟨he, hu.below⟩
end Go.Proofs.Ytcibpkhbdmnopaa
