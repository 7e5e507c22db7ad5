/- Slices of structs that came in, with the bounds that their reading gives for inner strings. No program in sight. Values (Avp) as they came in. A message (Ctl) as it came in. -/
import Derived.SizedLaws
import Derived.Test.YtglafpdealjlnaaGreatProg
import Derived.Lib.SmallJoins
import Derived.Test.YtglafpdealjlnaaGreatQLib
namespace Go.Proofs.YtglafpdealjlnaaGreat
open Go.RowKit Go.ChangeShapes Go.WideShapes

section
variable {H : Type} {enc : TypeId × Value → H} {P : Program} {W : World}
/-- Each string, slice and map within is within reach. -/
def Wt (P : Program) (t : TypeId) (d : DataW H) : Prop := ∀ n ∈ d.weights P t, n ≤ reachBytes
theorem wt_each {ts : List TypeId} {ds : List (DataW H)} (h : (DataW.weightsEach P ts ds).all (· ≤ reachBytes) = true) {j : Nat} {t : TypeId} {d : DataW H} (ht : ts[j]? = some t) (hd : ds[j]? = some d) : Wt P t d := by
  intro n hn
  have := List.all_eq_true.1 h n (DataW.weights_mem_each ht hd n hn)
  simpa using this
theorem weights_mem_all {e : TypeId} : ∀ {ds : List (DataW H)} {d : DataW H}, d ∈ ds → ∀ n ∈ d.weights P e, n ∈ DataW.weightsAll P e ds
  | d0 :: ds, d, hd, n, hn => by
    simp only [DataW.weightsAll, List.mem_append]
    rcases List.mem_cons.1 hd with rfl | hd
    · exact .inl hn
    · exact .inr (weights_mem_all hd n hn)
  | [], _, hd, _, _ => by cases hd
theorem Wt.elem {t e : TypeId} {elems spare : List (DataW H)} (ht : P.underlying t = some (.slice e)) (h : Wt P t (.slice elems spare)) {d : DataW H} (hd : d ∈ elems) : Wt P e d := by
  intro n hn
  refine h n ?_
  simp only [DataW.weights, ht, List.mem_cons, List.mem_append]
  exact .inr (.inl (weights_mem_all hd n hn))
theorem Wt.cap {t e : TypeId} {elems spare : List (DataW H)} (ht : P.underlying t = some (.slice e)) (h : Wt P t (.slice elems spare)) : (elems.length + spare.length) * P.bytesOf e ≤ reachBytes :=
  h _ (by simp [DataW.weights, ht])
theorem Wt.part {t : TypeId} {fs : Array Field} {parts : List (DataW H)} (ht : P.underlying t = some (.struct fs)) (h : Wt P t (.agg parts)) {i : Nat} {f : Field} {d : DataW H} (hf : fs[i]? = some f) (hd : parts[i]? = some d) : Wt P f.type d := by
  intro n hn
  refine h n ?_
  simp only [DataW.weights, ht]
  exact DataW.weights_mem_each (j := i) (by simp [hf]) hd n hn
theorem Wt.string {t : TypeId} {s : List UInt8} (h : Wt P t (.lit (.string s) : DataW H)) : s.length ≤ reachBytes := h _ (by simp [DataW.weights])

/-- The slice is nil, or each of its elements lies at its address and reads by its type, within reach. -/
theorem slice_came_wt {t e : TypeId} {ao : Option Addr} {len cap : Nat} {d : DataW H} {p : List MemPlace}
    (ht : P.underlying t = some (.slice e)) (h : DataW.Trod enc P W 0 (fun _ => true) true t (.slice ao len cap) d p) (hw : Wt P t d) :
    (ao = none ∧ len = 0 ∧ cap = 0) ∨ ∃ a, ao = some a ∧ len ≤ cap ∧ cap ≤ maxLen ∧
      ∀ i, i < len → ∃ cs n x, W.cells? 0 (a.add (i * P.cellsOf e)) (P.cellsOf e) = some cs ∧ DataW.trod enc P W 0 (fun _ => true) true n e cs = some x ∧ Wt P e x.1 := by
  obtain ⟨fuel, hf⟩ := h
  rcases Go.Deep.open_slice ht hf with ⟨h1, _⟩ | ⟨a, l, c, m, n, D, Pl, h1, _, hl, hm, hmm, hx, hel⟩
  · left
    simp [Value.cells] at h1
    exact h1
  · right
    simp [Value.cells] at h1
    obtain ⟨rfl, rfl, rfl⟩ := h1
    have hd := (Prod.ext_iff.1 hx).1
    simp only at hd
    subst hd
    refine ⟨a, rfl, hl, hm, fun i hi => ?_⟩
    obtain ⟨cs, h1, h2⟩ := hel i (by simp at hmm; omega)
    exact ⟨cs, n, _, h1, h2, hw.elem ht (List.mem_map.2 ⟨i, List.mem_range.2 hi, rfl⟩)⟩
theorem field_string_wt {e : TypeId} {n : Nat} {cs : List Value} {x : DataW H × List MemPlace} {fs : Array Field} {f : Field} (i : Nat)
    (hs : P.underlying e = some (.struct fs)) (h : DataW.trod enc P W 0 (fun _ => true) true n e cs = some x) (hw : Wt P e x.1) (hf : fs[i]? = some f) (hk : P.underlying f.type = some .string) (hc : P.cellsOf f.type = 1) :
    ∃ v, cs[f.offset]? = some (.string v) ∧ v.size ≤ reachBytes := by
  obtain ⟨xs, m, _, hx, hl, hxs, hall⟩ := DataW.trod_struct hs h
  have h1 := hall i f hf
  rw [hc] at h1
  have hi : i < xs.length := by rw [hxs]; exact (Array.getElem?_eq_some_iff.1 hf).1
  rw [List.getElem?_eq_getElem hi] at h1
  obtain ⟨v, hv, hv2, _⟩ := DataW.trod_string hk h1
  refine ⟨v, ?_, ?_⟩
  · have := congrArg (fun l => l[0]?) hv
    simpa [List.getElem?_take, List.getElem?_drop] using this
  · rw [hx] at hw
    have h2 := hw.part hs (i := i) (d := (xs[i]).1) hf (by simp [List.getElem?_eq_getElem hi])
    rw [hv2] at h2
    have h3 := h2.string
    exact h3
theorem reach_le : reachBytes ≤ 140737488355328 := by decide
end

theorem choose_list {α : Type} {n : Nat} {p : Nat → α → Prop} (h : ∀ i, i < n → ∃ x, p i x) : ∃ l : List α, l.length = n ∧ ∀ i x, l[i]? = some x → p i x := by
  induction n with
  | zero => exact ⟨[], rfl, by simp⟩
  | succ n ih =>
    obtain ⟨l, hl, h1⟩ := ih (fun i hi => h i (by omega))
    obtain ⟨x, hx⟩ := h n (by omega)
    refine ⟨l ++ [x], by simp [hl], fun i y hy => ?_⟩
    by_cases hi : i < l.length
    · rw [List.getElem?_append_left hi] at hy
      exact h1 i y hy
    · have hil : i = l.length := by
        have := (List.getElem?_eq_some_iff.1 hy).1
        simp at this
        omega
      subst hil
      simp at hy
      subst hy
      rw [hl]; exact hx
end Go.Proofs.YtglafpdealjlnaaGreat
namespace Go.Proofs.YtglafpdealjlnaaGreat
open Go.RowKit Go.ChangeShapes Go.WideShapes
set_option maxRecDepth 100000

theorem avs_core {H : Type} {enc : TypeId × Value → H} {W : World} {a : Option Addr} {len cap : Nat} {d : DataW H} {p : List MemPlace}
    (h : DataW.Trod enc Tryz.prog W 0 (fun _ => true) true 22 (.slice a len cap) d p) (hw : Wt Tryz.prog 22 d) :
    ∃ l, AvsAt W (.slice a len cap) l ∧ ∀ t ∈ l, t.val.size ≤ 140737488355328 := by
  rcases slice_came_wt Tryz.underlying22 h hw with ⟨rfl, rfl, rfl⟩ | ⟨q, rfl, hl, hm, hel⟩
  · exact ⟨[], AvsAt.nil _, by simp⟩
  have hn : Tryz.prog.cellsOf 85 = 5 := by kernel_rfl
  rw [hn] at hel
  obtain ⟨l, hll, hp⟩ := choose_list (p := fun i (t : Av) => AvAt W (q.add (i * 5)) t ∧ t.val.size ≤ 140737488355328) (fun i hi => by
    obtain ⟨cs, n, x, hc, ht, hwx⟩ := hel i hi
    obtain ⟨mu, h0⟩ := field_bool 0 Tryz.underlying85 ht rfl Tryz.underlying4 (by kernel_rfl)
    obtain ⟨hi, h1⟩ := field_bool 1 Tryz.underlying85 ht rfl Tryz.underlying4 (by kernel_rfl)
    obtain ⟨ve, h2, _⟩ := field_int 2 Tryz.underlying85 ht rfl Tryz.underlying3 (by kernel_rfl)
    obtain ⟨k, h3, _⟩ := field_int 3 Tryz.underlying85 ht rfl Tryz.underlying3 (by kernel_rfl)
    obtain ⟨s, h4, hsz⟩ := field_string_wt 4 Tryz.underlying85 ht hwx rfl Tryz.underlying9 (by kernel_rfl)
    have c0 := cell_of_cells hc 0 (by omega)
    have c1 := cell_of_cells hc 1 (by omega)
    have c2 := cell_of_cells hc 2 (by omega)
    have c3 := cell_of_cells hc 3 (by omega)
    have c4 := cell_of_cells hc 4 (by omega)
    exact ⟨⟨mu, hi, ve, k, s⟩, ⟨c0.trans h0, c1.trans h1, c2.trans h2, c3.trans h3, c4.trans h4⟩, Nat.le_trans hsz reach_le⟩)
  refine ⟨l, ⟨some q, cap, by rw [hll], by omega, hm, fun i t ht => ?_⟩, fun t ht => ?_⟩
  · exact ⟨q, rfl, (hp i t ht).1⟩
  · obtain ⟨i, hi⟩ := List.mem_iff_getElem?.1 ht
    exact (hp i t hi).2
theorem avs_in {H : Type} {enc : TypeId × Value → H} {W : World} {v : Value} {d : DataW H} {p : List MemPlace} {base : Nat}
    (h : DataW.Trod enc Tryz.prog W 0 (fun _ => true) true 22 v d p) (o : Value.okWide Tryz.prog W .any base 22 v) (hw : Wt Tryz.prog 22 d) :
    ∃ l, AvsAt W v l ∧ ∀ t ∈ l, t.val.size ≤ 140737488355328 := by
  obtain ⟨a, len, cap, rfl⟩ := okWide_slice Tryz.underlying22 o
  exact avs_core h hw
end Go.Proofs.YtglafpdealjlnaaGreat
namespace Go.Proofs.YtglafpdealjlnaaGreat
open Go.RowKit Go.ChangeShapes Go.WideShapes
set_option maxRecDepth 100000

theorem avs_cell {H : Type} {enc : TypeId × Value → H} {W : World} {n : Nat} {v : Value} {x : DataW H × List MemPlace}
    (h : DataW.trod enc Tryz.prog W 0 (fun _ => true) true n 22 [v] = some x) (hw : Wt Tryz.prog 22 x.1) :
    ∃ l, AvsAt W v l ∧ ∀ t ∈ l, t.val.size ≤ 140737488355328 := by
  rcases Go.Deep.open_slice Tryz.underlying22 h with ⟨h1, _⟩ | ⟨a, l, c, m, k, D, Pl, h1, _⟩
  all_goals
    simp only [List.cons.injEq, and_true] at h1
    subst h1
    exact avs_core ⟨n, by simpa [Value.cells] using h⟩ hw
theorem array5 {α : Type} {cs : Array α} (h : cs.size = 5) : ∃ c0 c1 c2 c3 c4, cs = #[c0, c1, c2, c3, c4] := by
  obtain ⟨l⟩ := cs
  match l, h with
  | [c0, c1, c2, c3, c4], _ => exact ⟨c0, c1, c2, c3, c4, rfl⟩
/-- A struct of five fields of one cell each, opened. -/
theorem open_five {H : Type} {enc : TypeId × Value → H} {P : Program} {w : World} {base b0 : Nat} {spare : Nat → Bool} {held : Bool} {r : Reach} {t : TypeId} {f0 f1 f2 f3 f4 : Field} {v : Value} {d : DataW H} {p : List MemPlace}
    (hs : P.underlying t = some (.struct #[f0, f1, f2, f3, f4])) (hone : Go.Deep.oneCellFields P #[f0, f1, f2, f3, f4] = true) (hC : P.cellsOf t = 5)
    (hv : Value.okWide P w r b0 t v) (h : DataW.Trod enc P w base spare held t v d p) :
    ∃ (v0 v1 v2 v3 v4 : Value) (y0 y1 y2 y3 y4 : DataW H × List MemPlace) (n : Nat), v = .agg #[v0, v1, v2, v3, v4] ∧ d = .agg [y0.1, y1.1, y2.1, y3.1, y4.1] ∧ p = y0.2 ++ (y1.2 ++ (y2.2 ++ (y3.2 ++ y4.2))) ∧
      DataW.trod enc P w base spare held n f0.type [v0] = some y0 ∧ DataW.trod enc P w base spare held n f1.type [v1] = some y1 ∧ DataW.trod enc P w base spare held n f2.type [v2] = some y2 ∧ DataW.trod enc P w base spare held n f3.type [v3] = some y3 ∧ DataW.trod enc P w base spare held n f4.type [v4] = some y4 := by
  obtain ⟨cs, rfl, hsz⟩ := okWide_struct hs hv
  obtain ⟨c0, c1, c2, c3, c4, rfl⟩ := array5 (hsz.trans hC)
  obtain ⟨fuel, hf⟩ := h
  obtain ⟨xs, n, _, hx, hl, hlen, hg⟩ := DataW.trod_struct hs hf
  obtain ⟨o0, k0⟩ := Go.Deep.hone_of hone 0 f0 rfl
  obtain ⟨o1, k1⟩ := Go.Deep.hone_of hone 1 f1 rfl
  obtain ⟨o2, k2⟩ := Go.Deep.hone_of hone 2 f2 rfl
  obtain ⟨o3, k3⟩ := Go.Deep.hone_of hone 3 f3 rfl
  obtain ⟨o4, k4⟩ := Go.Deep.hone_of hone 4 f4 rfl
  match xs, hlen with
  | [y0, y1, y2, y3, y4], _ =>
    simp only [Prod.mk.injEq] at hx
    have g0 := hg 0 f0 rfl
    have g1 := hg 1 f1 rfl
    have g2 := hg 2 f2 rfl
    have g3 := hg 3 f3 rfl
    have g4 := hg 4 f4 rfl
    exact ⟨c0, c1, c2, c3, c4, y0, y1, y2, y3, y4, n, rfl, by simpa using hx.1, by simpa using hx.2, by simpa [Value.cells, o0, k0] using g0, by simpa [Value.cells, o1, k1] using g1, by simpa [Value.cells, o2, k2] using g2, by simpa [Value.cells, o3, k3] using g3, by simpa [Value.cells, o4, k4] using g4⟩
theorem ctl_in {H : Type} {enc : TypeId × Value → H} {W : World} {v : Value} {d : DataW H} {p : List MemPlace} {base : Nat}
    (h : DataW.Trod enc Tryz.prog W 0 (fun _ => true) true 24 v d p) (o : Value.okWide Tryz.prog W .any base 24 v) (hw : Wt Tryz.prog 24 d) :
    ∃ (t s ns nr : Int) (u : Value) (l : List Av), v = .agg #[.int .i64 t, .int .i64 s, .int .i64 ns, .int .i64 nr, u] ∧ AvsAt W u l ∧ ∀ t ∈ l, t.val.size ≤ 140737488355328 := by
  obtain ⟨c0, c1, c2, c3, c4, y0, y1, y2, y3, y4, n, rfl, rfl, rfl, g0, g1, g2, g3, g4⟩ := open_five Tryz.underlying24 (by kernel_rfl) (by kernel_rfl) o h
  obtain ⟨a0, e0, _, _⟩ := DataW.trod_int Tryz.underlying3 g0
  obtain ⟨a1, e1, _, _⟩ := DataW.trod_int Tryz.underlying3 g1
  obtain ⟨a2, e2, _, _⟩ := DataW.trod_int Tryz.underlying3 g2
  obtain ⟨a3, e3, _, _⟩ := DataW.trod_int Tryz.underlying3 g3
  obtain ⟨l, hl, hls⟩ := avs_cell g4 (hw.part Tryz.underlying24 (i := 4) (d := y4.1) rfl rfl)
  simp only [List.cons.injEq, and_true] at e0 e1 e2 e3
  subst e0 e1 e2 e3
  exact ⟨a0, a1, a2, a3, c4, l, rfl, hl, hls⟩
end Go.Proofs.YtglafpdealjlnaaGreat
