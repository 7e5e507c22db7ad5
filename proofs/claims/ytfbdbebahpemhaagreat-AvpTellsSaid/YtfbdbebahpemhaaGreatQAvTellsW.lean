/- The walk of AvpTells at the arguments as they came in. -/
import Derived.Test.YtfbdbebahpemhaaGreatQAvTells
import Derived.Test.YtfbdbebahpemhaaGreatQLightA
namespace Go.Proofs.YtfbdbebahpemhaaGreat
open Go.RowKit Go.ChangeShapes Go.WideShapes
set_option maxRecDepth 100000

theorem str_in18 {H : Type} {enc : TypeId × Value → H} {W : World} {v : Value} {d : DataW H} {p : List MemPlace} {base : Nat}
    (h : DataW.Trod enc Tryz.prog W 0 (fun _ => true) true 9 v d p) (o : Value.okWide Tryz.prog W .any base 9 v) (hw : Wt Tryz.prog 9 d) :
    ∃ s : ByteArray, v = .string s ∧ s.size ≤ 140737488355328 := by
  obtain ⟨s, rfl, rfl, rfl, _⟩ := Go.ChangeMaps.open_string Tryz.underlying9 o h
  exact ⟨s, rfl, Nat.le_trans hw.string reach_le⟩
theorem int_range18 {x : Int} (h : (Lit.int .i64 x).wf = true) : -9223372036854775808 ≤ x ∧ x ≤ 9223372036854775807 := by
  have h1 : IntKind.i64.min = -9223372036854775808 := by decide
  have h2 : IntKind.i64.max = 9223372036854775807 := by decide
  simp [Lit.wf, h1, h2] at h
  omega
theorem avpTells_walk {H : Type} {enc : TypeId × Value → H} {v0 v1 v2 v3 : Value} {d0 d1 d2 d3 d4 d5 d6 : DataW H} {p0 p1 p2 p3 : List MemPlace} {W : World} {base : Nat}
    (h0 : DataW.Trod enc Tryz.prog W 0 (fun _ => true) true 22 v0 d0 p0) (o0 : Value.okWide Tryz.prog W .any base 22 v0)
    (h1 : DataW.Trod enc Tryz.prog W 0 (fun _ => true) true 22 v1 d1 p1) (o1 : Value.okWide Tryz.prog W .any base 22 v1)
    (h2 : DataW.Trod enc Tryz.prog W 0 (fun _ => true) true 9 v2 d2 p2) (o2 : Value.okWide Tryz.prog W .any base 9 v2)
    (h3 : DataW.Trod enc Tryz.prog W 0 (fun _ => true) true 9 v3 d3 p3) (o3 : Value.okWide Tryz.prog W .any base 9 v3)
    (kind : Int) (_ : (Lit.int .i64 kind).wf = true) (x : Int) (hx : (Lit.int .i64 x).wf = true) (n : Int) (_ : (Lit.int .i64 n).wf = true)
    (sz : (DataW.weightsEach Tryz.prog [22, 22, 9, 9, 3, 3, 3] [d0, d1, d2, d3, d4, d5, d6]).all (· ≤ reachBytes) = true) :
    Calls Tryz.prog 3 #[v0, v1, v2, v3, .int .i64 kind, .int .i64 x, .int .i64 n] W fun e w' => e = .returned (.bool true) ∧ Below W.heap.size W w' := by
  obtain ⟨l, hl, hls⟩ := avs_in h0 o0 (wt_each sz (j := 0) rfl rfl)
  obtain ⟨m, hm, hms⟩ := avs_in h1 o1 (wt_each sz (j := 1) rfl rfl)
  obtain ⟨s, rfl, hs⟩ := str_in18 h2 o2 (wt_each sz (j := 2) rfl rfl)
  obtain ⟨b, rfl, hb⟩ := str_in18 h3 o3 (wt_each sz (j := 3) rfl rfl)
  have hxr := int_range18 hx
  exact (avpTells_any l m v0 v1 s b kind x n W hl hm hls hms hs hb hxr).mono fun e w' ⟨he, hu⟩ => ⟨he, hu.below⟩
end Go.Proofs.YtfbdbebahpemhaaGreat
