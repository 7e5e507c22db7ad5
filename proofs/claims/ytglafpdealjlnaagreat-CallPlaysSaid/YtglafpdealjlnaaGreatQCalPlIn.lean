/- The things that are done in CallPlays, as they came in. -/
import Derived.Test.YtglafpdealjlnaaGreatQCalPlP
import Derived.Test.YtglafpdealjlnaaGreatQWeigh
namespace Go.Proofs.YtglafpdealjlnaaGreat
open Go.RowKit Go.ChangeShapes Go.WideShapes
set_option maxRecDepth 100000
set_option linter.unusedVariables false

theorem field_sub_wt {H : Type} {enc : TypeId × Value → H} {P : Program} {W : World} {e : TypeId} {n : Nat} {cs : List Value} {x : DataW H × List MemPlace} {fs : Array Field} {f : Field} (i : Nat)
    (hs : P.underlying e = some (.struct fs)) (h : DataW.trod enc P W 0 (fun _ => true) true n e cs = some x) (hw : Wt P e x.1) (hf : fs[i]? = some f) :
    ∃ m x', DataW.trod enc P W 0 (fun _ => true) true m f.type ((cs.drop f.offset).take (P.cellsOf f.type)) = some x' ∧ Wt P f.type x'.1 := by
  obtain ⟨xs, m, _, hx, hl, hxs, hall⟩ := DataW.trod_struct hs h
  have h1 := hall i f hf
  have hi : i < xs.length := by rw [hxs]; exact (Array.getElem?_eq_some_iff.1 hf).1
  rw [List.getElem?_eq_getElem hi] at h1
  rw [hx] at hw
  exact ⟨m, _, h1, hw.part hs (i := i) (d := (xs[i]).1) hf (by simp [List.getElem?_eq_getElem hi])⟩
theorem drop_take_get' {α : Type} (cs : List α) (a n j : Nat) (hj : j < n) : ((cs.drop a).take n)[j]? = cs[a + j]? := by
  rw [List.getElem?_take, if_pos hj, List.getElem?_drop]
theorem big_of {v : Int} (h : (Lit.int .i64 v).wf = true) : Big v := by
  have h1 : IntKind.i64.min = -9223372036854775808 := by decide
  have h2 : IntKind.i64.max = 9223372036854775807 := by decide
  simp [Lit.wf, h1, h2] at h
  exact h
theorem cops_in {H : Type} {enc : TypeId × Value → H} {W : World} {v : Value} {d : DataW H} {p : List MemPlace} {base : Nat}
    (h : DataW.Trod enc Tryz.prog W 0 (fun _ => true) true 71 v d p) (o : Value.okWide Tryz.prog W .any base 71 v) (hw : Wt Tryz.prog 71 d) : ∃ l, CopsAt W v l ∧ ∀ a ∈ l, CopOk a := by
  obtain ⟨a, len, cap, rfl⟩ := okWide_slice Tryz.underlying71 o
  rcases slice_came_wt Tryz.underlying71 h hw with ⟨rfl, rfl, rfl⟩ | ⟨q, rfl, hl, hm, hel⟩
  · exact ⟨[], ⟨none, 0, rfl, by simp, by simp [maxLen], by simp⟩, by simp⟩
  have hn : Tryz.prog.cellsOf 80 = 8 := by kernel_rfl
  rw [hn] at hel
  obtain ⟨l, hll, hp⟩ := choose_list (p := fun i (t : Cop) => CopAt W (q.add (i * 8)) t ∧ CopOk t) (fun i hi => by
    obtain ⟨cs, n, x, hc, ht, hwx⟩ := hel i hi
    obtain ⟨kd, hk, _⟩ := field_int 0 Tryz.underlying80 ht rfl Tryz.underlying3 (by kernel_rfl)
    obtain ⟨nn, hn1, hnw⟩ := field_int 1 Tryz.underlying80 ht rfl Tryz.underlying3 (by kernel_rfl)
    have hn5 : Tryz.prog.cellsOf 24 = 5 := by kernel_rfl
    obtain ⟨m, x', hsub, hws⟩ : ∃ m x', DataW.trod enc Tryz.prog W 0 (fun _ => true) true m 24 ((cs.drop 2).take 5) = some x' ∧ Wt Tryz.prog 24 x'.1 := by
      obtain ⟨m, x', h, h2⟩ := field_sub_wt 2 Tryz.underlying80 ht hwx rfl
      rw [← hn5]
      exact ⟨m, x', h, h2⟩
    obtain ⟨mt, h0, _⟩ := field_int 0 Tryz.underlying24 hsub rfl Tryz.underlying3 (by kernel_rfl)
    obtain ⟨ms, h1, _⟩ := field_int 1 Tryz.underlying24 hsub rfl Tryz.underlying3 (by kernel_rfl)
    obtain ⟨mns, h2, _⟩ := field_int 2 Tryz.underlying24 hsub rfl Tryz.underlying3 (by kernel_rfl)
    obtain ⟨mnr, h3, _⟩ := field_int 3 Tryz.underlying24 hsub rfl Tryz.underlying3 (by kernel_rfl)
    have hn1' : Tryz.prog.cellsOf 22 = 1 := by kernel_rfl
    have hlen : cs.length = 8 := by
      obtain ⟨_, h1, _⟩ := World.cells?_some hc
      simpa using h1
    obtain ⟨u, hu⟩ : ∃ u, cs[6]? = some u := ⟨_, List.getElem?_eq_getElem (by omega)⟩
    obtain ⟨lv, hlv, hls⟩ : ∃ l, AvsAt W u l ∧ ∀ t ∈ l, t.val.size ≤ 140737488355328 := by
      obtain ⟨m2, x2, h5, h6⟩ := field_sub_wt 4 Tryz.underlying24 hsub hws rfl
      have e : (((cs.drop 2).take 5).drop 4).take (Tryz.prog.cellsOf 22) = [u] := by
        rw [hn1']
        apply List.ext_getElem?
        intro j
        cases j with
        | zero => rw [List.getElem?_take, if_pos (by omega), List.getElem?_drop, drop_take_get' _ _ _ _ (by omega), hu]; rfl
        | succ j => rw [List.getElem?_take, if_neg (by omega)]; rfl
      exact avs_cell (by rw [← e]; exact h5) h6
    obtain ⟨s, h7, hsz⟩ := field_string_wt 3 Tryz.underlying80 ht hwx rfl Tryz.underlying9 (by kernel_rfl)
    have c0 := cell_of_cells hc 0 (by omega)
    have c1 := cell_of_cells hc 1 (by omega)
    have c2 := cell_of_cells hc 2 (by omega)
    have c3 := cell_of_cells hc 3 (by omega)
    have c4 := cell_of_cells hc 4 (by omega)
    have c5 := cell_of_cells hc 5 (by omega)
    have c6 := cell_of_cells hc 6 (by omega)
    have c7 := cell_of_cells hc 7 (by omega)
    refine ⟨⟨kd, nn, mt, ms, mns, mnr, lv, s⟩, ⟨c0.trans hk, c1.trans hn1, c2.trans ?_, c3.trans ?_, c4.trans ?_, c5.trans ?_, ⟨u, c6.trans hu, hlv⟩, c7.trans h7⟩, ⟨big_of hnw, hls, Nat.le_trans hsz reach_le⟩⟩
    · exact (drop_take_get' cs 2 5 0 (by omega)).symm.trans h0
    · exact (drop_take_get' cs 2 5 1 (by omega)).symm.trans h1
    · exact (drop_take_get' cs 2 5 2 (by omega)).symm.trans h2
    · exact (drop_take_get' cs 2 5 3 (by omega)).symm.trans h3)
  refine ⟨l, ⟨some q, cap, by rw [hll], by omega, hm, fun i t ht => ⟨q, rfl, (hp i t ht).1⟩⟩, fun t ht => ?_⟩
  obtain ⟨i, hi⟩ := List.mem_iff_getElem?.1 ht
  exact (hp i t hi).2
end Go.Proofs.YtglafpdealjlnaaGreat
