/- The walk of MsgTells at the arguments as they came in. -/
import Derived.Test.YtglafpdealjlnaaGreatQMsTells
import Derived.Test.YtglafpdealjlnaaGreatQLightA
namespace Go.Proofs.YtglafpdealjlnaaGreat
open Go.RowKit Go.ChangeShapes Go.WideShapes
set_option maxRecDepth 100000

theorem msgTells_walk {H : Type} {enc : TypeId × Value → H} {v0 v1 v2 v3 : Value} {d0 d1 d2 d3 d4 : DataW H} {p0 p1 p2 p3 : List MemPlace} {W : World} {base : Nat}
    (h0 : DataW.Trod enc Tryz.prog W 0 (fun _ => true) true 24 v0 d0 p0) (o0 : Value.okWide Tryz.prog W .any base 24 v0)
    (h1 : DataW.Trod enc Tryz.prog W 0 (fun _ => true) true 26 v1 d1 p1) (o1 : Value.okWide Tryz.prog W .any base 26 v1)
    (h2 : DataW.Trod enc Tryz.prog W 0 (fun _ => true) true 9 v2 d2 p2) (o2 : Value.okWide Tryz.prog W .any base 9 v2)
    (h3 : DataW.Trod enc Tryz.prog W 0 (fun _ => true) true 9 v3 d3 p3) (o3 : Value.okWide Tryz.prog W .any base 9 v3)
    (kind : Int) (hk : (Lit.int .i64 kind).wf = true)
    (sz : (DataW.weightsEach Tryz.prog [24, 26, 9, 9, 3] [d0, d1, d2, d3, d4]).all (· ≤ reachBytes) = true) :
    Calls Tryz.prog 3 #[v0, v1, v2, v3, .int .i64 kind] W fun e w' => e = .returned (.bool true) ∧ Below W.heap.size W w' := by
  obtain ⟨t, s, ns, nr, u, m, rfl, hm, hms⟩ := ctl_in h0 o0 (wt_each sz (j := 0) rfl rfl)
  obtain ⟨l, rfl, hl⟩ := load_in h1 o1 (wt_each sz (j := 1) rfl rfl)
  obtain ⟨x, rfl, hx⟩ := str_in h2 o2 (wt_each sz (j := 2) rfl rfl)
  obtain ⟨b, rfl, hb⟩ := str_in h3 o3 (wt_each sz (j := 3) rfl rfl)
  exact (msgTells_any ⟨t, s, ns, nr, m⟩ u l x b kind W hm hms hl hx hb (int_range19 hk)).mono fun e w' ⟨he, hu⟩ => ⟨he, hu.below⟩
end Go.Proofs.YtglafpdealjlnaaGreat
