/- The walk of CtlWindow at the arguments as they came in. -/
import Derived.Test.YtclodmcdimaccaaCtlWin
namespace Go.Proofs.Ytclodmcdimaccaa
open Go.RowKit Go.ChangeShapes Go.WideShapes

theorem ops_in {H : Type} {enc : TypeId × Value → H} {W : World} {ao : Option Addr} {len cap : Nat} {d : DataW H} {p : List MemPlace}
    (h : DataW.Trod enc Try.prog W 0 (fun _ => true) true 47 (.slice ao len cap) d p) : OpsIn W ao len ∧ len ≤ maxLen := by
  rcases slice_came Try.underlying47 h with ⟨rfl, rfl, rfl⟩ | ⟨q, rfl, hl, hm, hel⟩
  · exact ⟨fun i hi => by omega, by simp [maxLen]⟩
  refine ⟨fun i hi => ?_, by omega⟩
  obtain ⟨cs, n, x, hc, ht⟩ := hel i hi
  have hn : Try.prog.cellsOf 49 = 5 := by kernel_rfl
  rw [hn] at hc
  obtain ⟨k, hk, _⟩ := field_int 0 Try.underlying49 ht rfl Try.underlying3 (by kernel_rfl)
  obtain ⟨m, hm, _⟩ := field_int 1 Try.underlying49 ht rfl Try.underlying3 (by kernel_rfl)
  have c0 := cell_of_cells hc 0 (by omega)
  have c1 := cell_of_cells hc 1 (by omega)
  refine ⟨q, k, m, rfl, ?_, ?_⟩
  · exact c0.trans hk
  · exact c1.trans hm

theorem ctlWindow_walk {H : Type} {enc : TypeId × Value → H} (window : Int) (_ : (Lit.int .i64 window).wf = true) (first : Int) (_ : (Lit.int .i64 first).wf = true)
    {v : Value} {d : DataW H} {p : List MemPlace} {W : World} {base : Nat} (h : DataW.Trod enc Try.prog W 0 (fun _ => true) true 47 v d p)
    (o : Value.okWide Try.prog W .any base 47 v) :
    Calls Try.prog 6 #[.int .i64 window, .int .i64 first, v] W fun e w' => e = .returned (.bool true) ∧ Below W.heap.size W w' := by
  obtain ⟨a, len, cap, rfl⟩ := okWide_slice Try.underlying47 o
  obtain ⟨h1, h2⟩ := ops_in h
  exact (ctlWindow_run window first a len cap W h1 h2).mono fun e w' ⟨he, hu⟩ => ⟨he, hu.below⟩
end Go.Proofs.Ytclodmcdimaccaa
