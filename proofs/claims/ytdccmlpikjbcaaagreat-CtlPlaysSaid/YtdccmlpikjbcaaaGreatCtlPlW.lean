/- The walk of CtlPlays at the arguments as they came in. -/
import Derived.Test.YtdccmlpikjbcaaaGreatCtlPl
import Derived.Test.YtdccmlpikjbcaaaGreatWeigh
namespace Go.Proofs.YtdccmlpikjbcaaaGreat
open Go.RowKit
set_option linter.unusedSimpArgs false
set_option linter.unusedVariables false
set_option maxRecDepth 100000

open Go.ChangeShapes Go.WideShapes in
theorem field_sub {H : Type} {enc : TypeId × Value → H} {P : Program} {W : World} {e : TypeId} {n : Nat} {cs : List Value} {x : DataW H × List MemPlace} {fs : Array Field} {f : Field} (i : Nat)
    (hs : P.underlying e = some (.struct fs)) (h : DataW.trod enc P W 0 (fun _ => true) true n e cs = some x) (hf : fs[i]? = some f) :
    ∃ m x', DataW.trod enc P W 0 (fun _ => true) true m f.type ((cs.drop f.offset).take (P.cellsOf f.type)) = some x' := by
  obtain ⟨xs, m, _, _, hl, hxs, hall⟩ := DataW.trod_struct hs h
  have h1 := hall i f hf
  have hi : i < xs.length := by rw [hxs]; exact (Array.getElem?_eq_some_iff.1 hf).1
  rw [List.getElem?_eq_getElem hi] at h1
  exact ⟨m, _, h1⟩
theorem drop_take_get {α : Type} (cs : List α) (a n j : Nat) (hj : j < n) : ((cs.drop a).take n)[j]? = cs[a + j]? := by
  rw [List.getElem?_take, if_pos hj, List.getElem?_drop]
open Go.ChangeShapes Go.WideShapes in
theorem ops_in {H : Type} {enc : TypeId × Value → H} {W : World} {v : Value} {d : DataW H} {p : List MemPlace} {base : Nat}
    (h : DataW.Trod enc Tryz.prog W 0 (fun _ => true) true 22 v d p) (o : Value.okWide Tryz.prog W .any base 22 v) : ∃ l, OpsAt W v l := by
  obtain ⟨a, len, cap, rfl⟩ := okWide_slice Tryz.underlying22 o
  rcases slice_came Tryz.underlying22 h with ⟨rfl, rfl, rfl⟩ | ⟨q, rfl, hl, hm, hel⟩
  · exact ⟨[], none, 0, rfl, by simp, by simp [maxLen], by simp⟩
  have hn : Tryz.prog.cellsOf 55 = 5 := by kernel_rfl
  rw [hn] at hel
  obtain ⟨l, hll, hp⟩ := choose_list (p := fun i (t : Pop) => OpAt W (q.add (i * 5)) t) (fun i hi => by
    obtain ⟨cs, n, x, hc, ht⟩ := hel i hi
    obtain ⟨kd, hk, _⟩ := field_int 0 Tryz.underlying55 ht rfl Tryz.underlying3 (by kernel_rfl)
    obtain ⟨nn, hn1, _⟩ := field_int 1 Tryz.underlying55 ht rfl Tryz.underlying3 (by kernel_rfl)
    have hn3 : Tryz.prog.cellsOf 53 = 3 := by kernel_rfl
    obtain ⟨m, x', hsub⟩ : ∃ m x', DataW.trod enc Tryz.prog W 0 (fun _ => true) true m 53 ((cs.drop 2).take 3) = some x' := by
      obtain ⟨m, x', h⟩ := field_sub 2 Tryz.underlying55 ht rfl
      rw [← hn3]
      exact ⟨m, x', h⟩
    obtain ⟨ns, h0, _⟩ := field_int 0 Tryz.underlying53 hsub rfl Tryz.underlying3 (by kernel_rfl)
    obtain ⟨nr, h1, _⟩ := field_int 1 Tryz.underlying53 hsub rfl Tryz.underlying3 (by kernel_rfl)
    obtain ⟨s, h2, _⟩ := field_string 2 Tryz.underlying53 hsub rfl Tryz.underlying9 (by kernel_rfl)
    have c0 := cell_of_cells hc 0 (by omega)
    have c1 := cell_of_cells hc 1 (by omega)
    have c2 := cell_of_cells hc 2 (by omega)
    have c3 := cell_of_cells hc 3 (by omega)
    have c4 := cell_of_cells hc 4 (by omega)
    refine ⟨⟨kd, nn, ns, nr, s⟩, c0.trans hk, c1.trans hn1, c2.trans ?_, c3.trans ?_, c4.trans ?_⟩
    · exact (drop_take_get cs 2 3 0 (by omega)).symm.trans h0
    · exact (drop_take_get cs 2 3 1 (by omega)).symm.trans h1
    · exact (drop_take_get cs 2 3 2 (by omega)).symm.trans h2)
  exact ⟨l, some q, cap, by rw [hll], by omega, hm, fun i t ht => ⟨q, rfl, hp i t ht⟩⟩
open Go.ChangeShapes Go.WideShapes in
theorem ctlPlays_walk {H : Type} {enc : TypeId × Value → H} (a0 : Int) (_ : (Lit.int .i64 a0).wf = true) (a1 : Int) (_ : (Lit.int .i64 a1).wf = true) (a2 : Int) (_ : (Lit.int .i64 a2).wf = true) (a3 : Int) (_ : (Lit.int .i64 a3).wf = true) (a4 : Int) (_ : (Lit.int .i64 a4).wf = true)
    {v5 : Value} {d5 : DataW H} {p5 : List MemPlace} {W : World} {base : Nat}
    (h5 : DataW.Trod enc Tryz.prog W 0 (fun _ => true) true 22 v5 d5 p5) (o5 : Value.okWide Tryz.prog W .any base 22 v5) :
    Calls Tryz.prog 3 #[.int .i64 a0, .int .i64 a1, .int .i64 a2, .int .i64 a3, .int .i64 a4, v5] W fun e w' => e = .returned (.bool true) ∧ Below W.heap.size W w' := by
  obtain ⟨l, hl⟩ := ops_in h5 o5
  exact (ctlPlays_any a0 a1 a2 a3 a4 l v5 W hl).mono fun e w' ⟨he, hu⟩ => ⟨he, hu.below⟩
end Go.Proofs.YtdccmlpikjbcaaaGreat
