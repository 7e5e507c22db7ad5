/- The walk of DataBack at the arguments as they came in. -/
import Derived.Test.YteflpekokgdllaaDataBk
import Derived.Test.YteflpekokgdllaaProxyIn
namespace Go.Proofs.Yteflpekokgdllaa
open Go.RowKit Go.ChangeShapes Go.WideShapes
set_option maxRecDepth 20000

theorem dataBack_walk {H : Type} {enc : TypeId × Value → H} {v0 v1 : Value} {d0 d1 : DataW H} {p0 p1 : List MemPlace} {W : World} {base : Nat}
    (h0 : DataW.Trod enc Try.prog W 0 (fun _ => true) true 24 v0 d0 p0) (o0 : Value.okWide Try.prog W .any base 24 v0)
    (h1 : DataW.Trod enc Try.prog W 0 (fun _ => true) true 25 v1 d1 p1) (o1 : Value.okWide Try.prog W .any base 25 v1)
    (sz : (DataW.weightsEach Try.prog [24, 25] [d0, d1]).all (· ≤ reachBytes) = true) :
    Calls Try.prog 3 #[v0, v1] W fun e w' => e = .returned (.bool true) ∧ Below W.heap.size W w' := by
  obtain ⟨x, f, t, r, rfl, hf, ht, hr, hs, hz⟩ := proxy_in h0 o0 (wt_each sz (j := 0) rfl rfl)
  obtain ⟨l, hl, hls⟩ := avs_in h1 o1 (wt_each sz (j := 1) rfl rfl)
  exact (dataBack_any x f t r l v1 W hf ht hr hs hz hl hls).mono fun e w' ⟨he, hu⟩ => ⟨he, hu.below⟩
end Go.Proofs.Yteflpekokgdllaa
