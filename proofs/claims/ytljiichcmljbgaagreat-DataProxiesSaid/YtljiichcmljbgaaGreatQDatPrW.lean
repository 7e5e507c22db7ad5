/- The walk of DataProxies at the arguments as they came in. -/
import Derived.Test.YtljiichcmljbgaaGreatQDatPr
import Derived.Test.YtljiichcmljbgaaGreatQProxyIn
namespace Go.Proofs.YtljiichcmljbgaaGreat
open Go.RowKit Go.ChangeShapes Go.WideShapes
set_option maxRecDepth 100000

theorem dataProxies_walk {H : Type} {enc : TypeId × Value → H} {v0 v1 v2 : Value} {d0 d1 d2 : DataW H} {p0 p1 p2 : List MemPlace} {W : World} {base : Nat}
    (h0 : DataW.Trod enc Tryz.prog W 0 (fun _ => true) true 24 v0 d0 p0) (o0 : Value.okWide Tryz.prog W .any base 24 v0)
    (h1 : DataW.Trod enc Tryz.prog W 0 (fun _ => true) true 24 v1 d1 p1) (o1 : Value.okWide Tryz.prog W .any base 24 v1)
    (h2 : DataW.Trod enc Tryz.prog W 0 (fun _ => true) true 25 v2 d2 p2) (o2 : Value.okWide Tryz.prog W .any base 25 v2)
    (sz : (DataW.weightsEach Tryz.prog [24, 24, 25] [d0, d1, d2]).all (· ≤ reachBytes) = true) :
    Calls Tryz.prog 3 #[v0, v1, v2] W fun e w' => e = .returned (.bool true) ∧ Below W.heap.size W w' := by
  obtain ⟨x, f, t, r, rfl, hf, ht, hr, hs, hz, hk⟩ := proxy_in2 h0 o0 (wt_each sz (j := 0) rfl rfl)
  obtain ⟨y, f', t', r', rfl, gf, gt, gr, gs, gz, -⟩ := proxy_in2 h1 o1 (wt_each sz (j := 1) rfl rfl)
  obtain ⟨l, hl, hls⟩ := avs_in h2 o2 (wt_each sz (j := 2) rfl rfl)
  exact (dataProxies_any x y f t r f' t' r' l v2 W hf ht hr hs hz hk gf gt gr gs gz hl hls).mono fun e w' ⟨he, hu⟩ => ⟨he, hu.below⟩
end Go.Proofs.YtljiichcmljbgaaGreat
