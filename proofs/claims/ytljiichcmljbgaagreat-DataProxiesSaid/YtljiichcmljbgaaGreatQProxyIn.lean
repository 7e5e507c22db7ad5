/- A proxy as it came in; DataBack at the arguments as they came in. -/
import Derived.Lib.SmallJoins
import Derived.Test.YtljiichcmljbgaaGreatQDataBkA
import Derived.Test.YtljiichcmljbgaaGreatQLightO
namespace Go.Proofs.YtljiichcmljbgaaGreat
open Go.RowKit Go.ChangeShapes Go.WideShapes
set_option linter.unusedSimpArgs false
set_option linter.unusedVariables false
set_option maxRecDepth 100000

theorem array8 {α : Type} {cs : Array α} (h : cs.size = 8) : ∃ c0 c1 c2 c3 c4 c5 c6 c7, cs = #[c0, c1, c2, c3, c4, c5, c6, c7] := by
  obtain ⟨l⟩ := cs
  match l, h with
  | [c0, c1, c2, c3, c4, c5, c6, c7], _ => exact ⟨c0, c1, c2, c3, c4, c5, c6, c7, rfl⟩
theorem open_eight {H : Type} {enc : TypeId × Value → H} {P : Program} {w : World} {base b0 : Nat} {spare : Nat → Bool} {held : Bool} {r : Reach} {t : TypeId} {f0 f1 f2 f3 f4 f5 f6 f7 : Field} {v : Value} {d : DataW H} {p : List MemPlace}
    (hs : P.underlying t = some (.struct #[f0, f1, f2, f3, f4, f5, f6, f7])) (hone : Go.Deep.oneCellFields P #[f0, f1, f2, f3, f4, f5, f6, f7] = true) (hC : P.cellsOf t = 8)
    (hv : Value.okWide P w r b0 t v) (h : DataW.Trod enc P w base spare held t v d p) :
    ∃ (v0 v1 v2 v3 v4 v5 v6 v7 : Value) (y0 y1 y2 y3 y4 y5 y6 y7 : DataW H × List MemPlace) (n : Nat), v = .agg #[v0, v1, v2, v3, v4, v5, v6, v7] ∧ d = .agg [y0.1, y1.1, y2.1, y3.1, y4.1, y5.1, y6.1, y7.1] ∧ p = y0.2 ++ (y1.2 ++ (y2.2 ++ (y3.2 ++ (y4.2 ++ (y5.2 ++ (y6.2 ++ (y7.2))))))) ∧
      DataW.trod enc P w base spare held n f0.type [v0] = some y0 ∧ DataW.trod enc P w base spare held n f1.type [v1] = some y1 ∧ DataW.trod enc P w base spare held n f2.type [v2] = some y2 ∧ DataW.trod enc P w base spare held n f3.type [v3] = some y3 ∧ DataW.trod enc P w base spare held n f4.type [v4] = some y4 ∧ DataW.trod enc P w base spare held n f5.type [v5] = some y5 ∧ DataW.trod enc P w base spare held n f6.type [v6] = some y6 ∧ DataW.trod enc P w base spare held n f7.type [v7] = some y7 := by
  obtain ⟨cs, rfl, hsz⟩ := okWide_struct hs hv
  obtain ⟨c0, c1, c2, c3, c4, c5, c6, c7, rfl⟩ := array8 (hsz.trans hC)
  obtain ⟨fuel, hf⟩ := h
  obtain ⟨xs, n, _, hx, hl, hlen, hg⟩ := DataW.trod_struct hs hf
  obtain ⟨o0, k0⟩ := Go.Deep.hone_of hone 0 f0 rfl
  obtain ⟨o1, k1⟩ := Go.Deep.hone_of hone 1 f1 rfl
  obtain ⟨o2, k2⟩ := Go.Deep.hone_of hone 2 f2 rfl
  obtain ⟨o3, k3⟩ := Go.Deep.hone_of hone 3 f3 rfl
  obtain ⟨o4, k4⟩ := Go.Deep.hone_of hone 4 f4 rfl
  obtain ⟨o5, k5⟩ := Go.Deep.hone_of hone 5 f5 rfl
  obtain ⟨o6, k6⟩ := Go.Deep.hone_of hone 6 f6 rfl
  obtain ⟨o7, k7⟩ := Go.Deep.hone_of hone 7 f7 rfl
  match xs, hlen with
  | [y0, y1, y2, y3, y4, y5, y6, y7], _ =>
    simp only [Prod.mk.injEq] at hx
    have g0 := hg 0 f0 rfl
    have g1 := hg 1 f1 rfl
    have g2 := hg 2 f2 rfl
    have g3 := hg 3 f3 rfl
    have g4 := hg 4 f4 rfl
    have g5 := hg 5 f5 rfl
    have g6 := hg 6 f6 rfl
    have g7 := hg 7 f7 rfl
    exact ⟨c0, c1, c2, c3, c4, c5, c6, c7, y0, y1, y2, y3, y4, y5, y6, y7, n, rfl, by simpa using hx.1, by simpa using hx.2, by simpa [Value.cells, o0, k0] using g0, by simpa [Value.cells, o1, k1] using g1, by simpa [Value.cells, o2, k2] using g2, by simpa [Value.cells, o3, k3] using g3, by simpa [Value.cells, o4, k4] using g4, by simpa [Value.cells, o5, k5] using g5, by simpa [Value.cells, o6, k6] using g6, by simpa [Value.cells, o7, k7] using g7⟩
theorem proxy_in {H : Type} {enc : TypeId × Value → H} {W : World} {v : Value} {d : DataW H} {p : List MemPlace} {base : Nat}
    (h : DataW.Trod enc Tryz.prog W 0 (fun _ => true) true 24 v d p) (o : Value.okWide Tryz.prog W .any base 24 v) (hw : Wt Tryz.prog 24 d) :
    ∃ (x : Px) (f t r : Value), v = x.val f t r ∧ TgsAt W f x.first ∧ TgsAt W t x.tx ∧ TgsAt W r x.rx ∧ (∀ l ∈ x.ls, ∀ t ∈ l, t.s.size ≤ 140737488355328) ∧ (x.name.size ≤ 140737488355328 ∧ x.value.size ≤ 140737488355328 ∧ x.reply.size ≤ 140737488355328) := by
  obtain ⟨c0, c1, c2, c3, c4, c5, c6, c7, y0, y1, y2, y3, y4, y5, y6, y7, n, rfl, rfl, rfl, g0, g1, g2, g3, g4, g5, g6, g7⟩ := open_eight Tryz.underlying24 (by kernel_rfl) (by kernel_rfl) o h
  obtain ⟨a3, e3, _, _⟩ := DataW.trod_int Tryz.underlying3 g3
  obtain ⟨a4, e4, _, _⟩ := DataW.trod_int Tryz.underlying3 g4
  obtain ⟨a5, e5, h5, _⟩ := DataW.trod_string Tryz.underlying9 g5
  obtain ⟨a6, e6, h6, _⟩ := DataW.trod_string Tryz.underlying9 g6
  obtain ⟨a7, e7, h7, _⟩ := DataW.trod_string Tryz.underlying9 g7
  obtain ⟨l0, hl0, hs0⟩ := opts_cell g0 (hw.part Tryz.underlying24 (i := 0) (d := y0.1) rfl rfl)
  obtain ⟨l1, hl1, hs1⟩ := opts_cell g1 (hw.part Tryz.underlying24 (i := 1) (d := y1.1) rfl rfl)
  obtain ⟨l2, hl2, hs2⟩ := opts_cell g2 (hw.part Tryz.underlying24 (i := 2) (d := y2.1) rfl rfl)
  simp only [List.cons.injEq, and_true] at e3 e4 e5 e6 e7
  subst e3 e4 e5 e6 e7
  have w5 := hw.part Tryz.underlying24 (i := 5) (d := y5.1) rfl rfl
  have w6 := hw.part Tryz.underlying24 (i := 6) (d := y6.1) rfl rfl
  have w7 := hw.part Tryz.underlying24 (i := 7) (d := y7.1) rfl rfl
  rw [h5] at w5
  rw [h6] at w6
  rw [h7] at w7
  refine ⟨⟨l0, l1, l2, a3, a4, a5, a6, a7⟩, c0, c1, c2, rfl, hl0, hl1, hl2, ?_, Nat.le_trans w5.string reach_le, Nat.le_trans w6.string reach_le, Nat.le_trans w7.string reach_le⟩
  intro l hl t ht
  simp only [Px.ls, List.mem_cons, List.not_mem_nil, or_false] at hl
  rcases hl with rfl | rfl | rfl
  · exact hs0 t ht
  · exact hs1 t ht
  · exact hs2 t ht
theorem proxy_in2 {H : Type} {enc : TypeId × Value → H} {W : World} {v : Value} {d : DataW H} {p : List MemPlace} {base : Nat}
    (h : DataW.Trod enc Tryz.prog W 0 (fun _ => true) true 24 v d p) (o : Value.okWide Tryz.prog W .any base 24 v) (hw : Wt Tryz.prog 24 d) :
    ∃ (x : Px) (f t r : Value), v = x.val f t r ∧ TgsAt W f x.first ∧ TgsAt W t x.tx ∧ TgsAt W r x.rx ∧ (∀ l ∈ x.ls, ∀ t ∈ l, t.s.size ≤ 140737488355328) ∧ (x.name.size ≤ 140737488355328 ∧ x.value.size ≤ 140737488355328 ∧ x.reply.size ≤ 140737488355328) ∧ (-9223372036854775808 ≤ x.kind ∧ x.kind ≤ 9223372036854775807) := by
  obtain ⟨c0, c1, c2, c3, c4, c5, c6, c7, y0, y1, y2, y3, y4, y5, y6, y7, n, rfl, rfl, rfl, g0, g1, g2, g3, g4, g5, g6, g7⟩ := open_eight Tryz.underlying24 (by kernel_rfl) (by kernel_rfl) o h
  obtain ⟨a3, e3, _, k3⟩ := DataW.trod_int Tryz.underlying3 g3
  have hk3 : -9223372036854775808 ≤ a3 ∧ a3 ≤ 9223372036854775807 := by
    simp only [Lit.wf, Bool.and_eq_true, decide_eq_true_eq] at k3
    exact k3
  obtain ⟨a4, e4, _, _⟩ := DataW.trod_int Tryz.underlying3 g4
  obtain ⟨a5, e5, h5, _⟩ := DataW.trod_string Tryz.underlying9 g5
  obtain ⟨a6, e6, h6, _⟩ := DataW.trod_string Tryz.underlying9 g6
  obtain ⟨a7, e7, h7, _⟩ := DataW.trod_string Tryz.underlying9 g7
  obtain ⟨l0, hl0, hs0⟩ := opts_cell g0 (hw.part Tryz.underlying24 (i := 0) (d := y0.1) rfl rfl)
  obtain ⟨l1, hl1, hs1⟩ := opts_cell g1 (hw.part Tryz.underlying24 (i := 1) (d := y1.1) rfl rfl)
  obtain ⟨l2, hl2, hs2⟩ := opts_cell g2 (hw.part Tryz.underlying24 (i := 2) (d := y2.1) rfl rfl)
  simp only [List.cons.injEq, and_true] at e3 e4 e5 e6 e7
  subst e3 e4 e5 e6 e7
  have w5 := hw.part Tryz.underlying24 (i := 5) (d := y5.1) rfl rfl
  have w6 := hw.part Tryz.underlying24 (i := 6) (d := y6.1) rfl rfl
  have w7 := hw.part Tryz.underlying24 (i := 7) (d := y7.1) rfl rfl
  rw [h5] at w5
  rw [h6] at w6
  rw [h7] at w7
  refine ⟨⟨l0, l1, l2, a3, a4, a5, a6, a7⟩, c0, c1, c2, rfl, hl0, hl1, hl2, ?_, ⟨Nat.le_trans w5.string reach_le, Nat.le_trans w6.string reach_le, Nat.le_trans w7.string reach_le⟩, hk3⟩
  intro l hl t ht
  simp only [Px.ls, List.mem_cons, List.not_mem_nil, or_false] at hl
  rcases hl with rfl | rfl | rfl
  · exact hs0 t ht
  · exact hs1 t ht
  · exact hs2 t ht
end Go.Proofs.YtljiichcmljbgaaGreat
