/- The walk of OptsTells at the arguments as they came in. -/
import Derived.Test.YthkfgjmifoeljaaGreatOptsTells
import Derived.Test.YthkfgjmifoeljaaGreatPacketIn
namespace Go.Proofs.YthkfgjmifoeljaaGreat
open Go.RowKit Go.ChangeShapes Go.WideShapes
set_option maxRecDepth 100000

theorem optsTells_walk {H : Type} {enc : TypeId × Value → H} {v0 v1 v2 : Value} {d0 d1 d2 d3 : DataW H} {p0 p1 p2 : List MemPlace} {W : World} {base : Nat}
    (h0 : DataW.Trod enc Tryz.prog W 0 (fun _ => true) true 24 v0 d0 p0) (o0 : Value.okWide Tryz.prog W .any base 24 v0)
    (h1 : DataW.Trod enc Tryz.prog W 0 (fun _ => true) true 22 v1 d1 p1) (o1 : Value.okWide Tryz.prog W .any base 22 v1)
    (h2 : DataW.Trod enc Tryz.prog W 0 (fun _ => true) true 9 v2 d2 p2) (o2 : Value.okWide Tryz.prog W .any base 9 v2)
    (a : Int) (_ : (Lit.int .i64 a).wf = true)
    (sz : (DataW.weightsEach Tryz.prog [24, 22, 9, 3] [d0, d1, d2, d3]).all (· ≤ reachBytes) = true) :
    Calls Tryz.prog 3 #[v0, v1, v2, .int .i64 a] W fun e w' => e = .returned (.bool true) ∧ Below W.heap.size W w' := by
  obtain ⟨x, u, rfl, hp, hps, hd⟩ := packet_in h0 o0 (wt_each sz (j := 0) rfl rfl)
  obtain ⟨l, hl, hls⟩ := opts_in h1 o1 (wt_each sz (j := 1) rfl rfl)
  obtain ⟨s, rfl, hs⟩ := str_in h2 o2 (wt_each sz (j := 2) rfl rfl)
  exact (optsTells_any x u l v1 s a W hp hl hps hls hd hs).mono fun e w' ⟨he, hu⟩ => ⟨he, hu.below⟩
end Go.Proofs.YthkfgjmifoeljaaGreat
