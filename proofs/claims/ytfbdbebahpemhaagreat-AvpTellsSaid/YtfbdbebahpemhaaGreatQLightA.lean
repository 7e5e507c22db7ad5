/- The walk of chapter 18's Light. Slices of structs that came in, with the bounds that their reading gives for inner strings. No program in sight. Values (Avp) as they came in. -/
import Derived.Test.YtfbdbebahpemhaaGreatProg
import Derived.SizedLaws
import Derived.Test.YtfbdbebahpemhaaGreatQLib
namespace Go.Proofs.YtfbdbebahpemhaaGreat
open Go.RowKit
set_option maxRecDepth 100000
set_option linter.unusedSimpArgs false
set_option linter.unusedVariables false

def sumA : List Av → Nat
  | [] => 0
  | a :: l => a.val.size + sumA l
theorem sumA_append (l m : List Av) : sumA (l ++ m) = sumA l + sumA m := by
  induction l with
  | nil => simp [sumA]
  | cons a l ih => simp only [List.cons_append, sumA, ih]; omega
def LightA (l : List Av) : Bool := decide (l.length ≤ 50) && decide (sumA (l.take 60) ≤ 6000)
set_option maxHeartbeats 1000000 in
theorem lightA_any (l : List Av) (v : Value) (w : World) (hl : AvsAt w v l) (hs : ∀ t ∈ l, t.val.size ≤ 140737488355328) :
    Calls Tryz.prog 4 #[v] w fun e w' => e = .returned (.bool (LightA l)) ∧ Upd [] w w' := by
  obtain ⟨ao, cap, rfl, h1, h2, -⟩ := id hl
  obtain ⟨n, hn⟩ : ∃ n, n = l.length := ⟨_, rfl⟩
  have HQ : Hid (LightA l = (decide (n ≤ 50) && decide (sumA (l.take 60) ≤ 6000))) := by show _ = _; rw [hn]; rfl
  rw [← hn] at h1
  rw [← hn]
  have HL := Lib.hid hl
  have HN := Lib.hid hn
  have HS := Lib.hid hs
  simp only [maxLen] at h2
  clear hl hn hs
  go_enter Tryz.func4, Tryz.ntmps4
  go_wp2
  go_loopg [3, 4] 60 (fun m s3 s4 wr => ∃ k z : Nat, k + m = 60 ∧ k ≤ n ∧ s3 = .int .i64 z ∧ s4 = .int .i64 k ∧ sumA (l.take k) = z ∧ z ≤ k * 140737488355328 ∧ wr = w)
  case atStart => exact ⟨0, 0, by omega, by omega, rfl, rfl, rfl, by omega, rfl⟩
  case round =>
    obtain ⟨k, z, hk, hkn, rfl, rfl, hz, hzb, rfl⟩ := hrel
    by_cases t : k < n
    · by_cases t2 : k < 60
      · obtain ⟨x, hx⟩ : ∃ x, l[k]? = some x := by
          have := HN.out
          exact ⟨_, List.getElem?_eq_getElem (by omega)⟩
        have hsz := HS.out x (List.mem_of_getElem? hx)
        obtain ⟨ao', cap', e0, -, -, h3⟩ := HL.out
        injection e0 with e0 e1 e2
        clear e1
        subst e0 e2
        obtain ⟨q, rfl, c0, c1, c2, c3, c4⟩ := h3 k x hx
        clear h3
        have HX : Hid (sumA (l.take (k + 1)) = z + x.val.size) := by
          show _ = _
          rw [List.take_add_one, hx, sumA_append, hz]
          simp [sumA]
        clear hx hz
        go_wp2
        go_roundg (60 - (k + 1))
        case rel => exact ⟨k + 1, z + x.val.size, by omega, by omega, by go_num, by go_num, HX.out, by omega, rfl⟩
        case measure => omega
      · obtain rfl : k = 60 := by omega
        have HZ := Lib.hid hz
        have t3 : ¬ n ≤ 50 := by omega
        have HF : Hid (LightA l = false) := by show _ = _; rw [HQ.out]; simp [t3]
        clear hz
        go_wp2
        go_ret
        rw [HF.out]
        exact ⟨rfl, Upd.refl _ _⟩
    · obtain rfl : k = n := by omega
      have HF : Hid (LightA l = (decide (k ≤ 50) && decide (z ≤ 6000))) := by
        show _ = _
        rw [HQ.out, ← hz]
        by_cases h : k ≤ 50
        · rw [List.take_of_length_le (by rw [← HN.out]; omega), List.take_of_length_le (l := l) (by rw [← HN.out]; exact Nat.le_refl _)]
        · simp [h]
      clear hz
      by_cases t3 : k ≤ 50
      · go_wp2
        go_ret
        rw [HF.out]
        refine ⟨?_, Upd.refl _ _⟩
        simp [t3]
        try omega
      · go_wp2
        go_ret
        rw [HF.out]
        refine ⟨?_, Upd.refl _ _⟩
        simp [t3]
        try omega
theorem LightA_spec {l : List Av} (h : LightA l = true) : l.length ≤ 50 := by
  simp only [LightA, Bool.and_eq_true, decide_eq_true_eq] at h
  exact h.1
end Go.Proofs.YtfbdbebahpemhaaGreat
namespace Go.Proofs.YtfbdbebahpemhaaGreat
open Go.RowKit Go.ChangeShapes Go.WideShapes

section
variable {H : Type} {enc : TypeId × Value → H} {P : Program} {W : World}
/-- Each string, slice and map within is within reach. -/
def Wt (P : Program) (t : TypeId) (d : DataW H) : Prop := ∀ n ∈ d.weights P t, n ≤ reachBytes
theorem wt_each {ts : List TypeId} {ds : List (DataW H)} (h : (DataW.weightsEach P ts ds).all (· ≤ reachBytes) = true) {j : Nat} {t : TypeId} {d : DataW H} (ht : ts[j]? = some t) (hd : ds[j]? = some d) : Wt P t d := by
  intro n hn
  have := List.all_eq_true.1 h n (DataW.weights_mem_each ht hd n hn)
  simpa using this
theorem weights_mem_all {e : TypeId} : ∀ {ds : List (DataW H)} {d : DataW H}, d ∈ ds → ∀ n ∈ d.weights P e, n ∈ DataW.weightsAll P e ds
  | d0 :: ds, d, hd, n, hn => by
    simp only [DataW.weightsAll, List.mem_append]
    rcases List.mem_cons.1 hd with rfl | hd
    · exact .inl hn
    · exact .inr (weights_mem_all hd n hn)
  | [], _, hd, _, _ => by cases hd
theorem Wt.elem {t e : TypeId} {elems spare : List (DataW H)} (ht : P.underlying t = some (.slice e)) (h : Wt P t (.slice elems spare)) {d : DataW H} (hd : d ∈ elems) : Wt P e d := by
  intro n hn
  refine h n ?_
  simp only [DataW.weights, ht, List.mem_cons, List.mem_append]
  exact .inr (.inl (weights_mem_all hd n hn))
theorem Wt.cap {t e : TypeId} {elems spare : List (DataW H)} (ht : P.underlying t = some (.slice e)) (h : Wt P t (.slice elems spare)) : (elems.length + spare.length) * P.bytesOf e ≤ reachBytes :=
  h _ (by simp [DataW.weights, ht])
theorem Wt.part {t : TypeId} {fs : Array Field} {parts : List (DataW H)} (ht : P.underlying t = some (.struct fs)) (h : Wt P t (.agg parts)) {i : Nat} {f : Field} {d : DataW H} (hf : fs[i]? = some f) (hd : parts[i]? = some d) : Wt P f.type d := by
  intro n hn
  refine h n ?_
  simp only [DataW.weights, ht]
  exact DataW.weights_mem_each (j := i) (by simp [hf]) hd n hn
theorem Wt.string {t : TypeId} {s : List UInt8} (h : Wt P t (.lit (.string s) : DataW H)) : s.length ≤ reachBytes := h _ (by simp [DataW.weights])

/-- The slice is nil, or each of its elements lies at its address and reads by its type, within reach. -/
theorem slice_came_wt {t e : TypeId} {ao : Option Addr} {len cap : Nat} {d : DataW H} {p : List MemPlace}
    (ht : P.underlying t = some (.slice e)) (h : DataW.Trod enc P W 0 (fun _ => true) true t (.slice ao len cap) d p) (hw : Wt P t d) :
    (ao = none ∧ len = 0 ∧ cap = 0) ∨ ∃ a, ao = some a ∧ len ≤ cap ∧ cap ≤ maxLen ∧
      ∀ i, i < len → ∃ cs n x, W.cells? 0 (a.add (i * P.cellsOf e)) (P.cellsOf e) = some cs ∧ DataW.trod enc P W 0 (fun _ => true) true n e cs = some x ∧ Wt P e x.1 := by
  obtain ⟨fuel, hf⟩ := h
  rcases Go.Deep.open_slice ht hf with ⟨h1, _⟩ | ⟨a, l, c, m, n, D, Pl, h1, _, hl, hm, hmm, hx, hel⟩
  · left
    simp [Value.cells] at h1
    exact h1
  · right
    simp [Value.cells] at h1
    obtain ⟨rfl, rfl, rfl⟩ := h1
    have hd := (Prod.ext_iff.1 hx).1
    simp only at hd
    subst hd
    refine ⟨a, rfl, hl, hm, fun i hi => ?_⟩
    obtain ⟨cs, h1, h2⟩ := hel i (by simp at hmm; omega)
    exact ⟨cs, n, _, h1, h2, hw.elem ht (List.mem_map.2 ⟨i, List.mem_range.2 hi, rfl⟩)⟩
theorem field_string_wt {e : TypeId} {n : Nat} {cs : List Value} {x : DataW H × List MemPlace} {fs : Array Field} {f : Field} (i : Nat)
    (hs : P.underlying e = some (.struct fs)) (h : DataW.trod enc P W 0 (fun _ => true) true n e cs = some x) (hw : Wt P e x.1) (hf : fs[i]? = some f) (hk : P.underlying f.type = some .string) (hc : P.cellsOf f.type = 1) :
    ∃ v, cs[f.offset]? = some (.string v) ∧ v.size ≤ reachBytes := by
  obtain ⟨xs, m, _, hx, hl, hxs, hall⟩ := DataW.trod_struct hs h
  have h1 := hall i f hf
  rw [hc] at h1
  have hi : i < xs.length := by rw [hxs]; exact (Array.getElem?_eq_some_iff.1 hf).1
  rw [List.getElem?_eq_getElem hi] at h1
  obtain ⟨v, hv, hv2, _⟩ := DataW.trod_string hk h1
  refine ⟨v, ?_, ?_⟩
  · have := congrArg (fun l => l[0]?) hv
    simpa [List.getElem?_take, List.getElem?_drop] using this
  · rw [hx] at hw
    have h2 := hw.part hs (i := i) (d := (xs[i]).1) hf (by simp [List.getElem?_eq_getElem hi])
    rw [hv2] at h2
    have h3 := h2.string
    exact h3
theorem reach_le : reachBytes ≤ 140737488355328 := by decide
end

theorem choose_list {α : Type} {n : Nat} {p : Nat → α → Prop} (h : ∀ i, i < n → ∃ x, p i x) : ∃ l : List α, l.length = n ∧ ∀ i x, l[i]? = some x → p i x := by
  induction n with
  | zero => exact ⟨[], rfl, by simp⟩
  | succ n ih =>
    obtain ⟨l, hl, h1⟩ := ih (fun i hi => h i (by omega))
    obtain ⟨x, hx⟩ := h n (by omega)
    refine ⟨l ++ [x], by simp [hl], fun i y hy => ?_⟩
    by_cases hi : i < l.length
    · rw [List.getElem?_append_left hi] at hy
      exact h1 i y hy
    · have hil : i = l.length := by
        have := (List.getElem?_eq_some_iff.1 hy).1
        simp at this
        omega
      subst hil
      simp at hy
      subst hy
      rw [hl]; exact hx
end Go.Proofs.YtfbdbebahpemhaaGreat
namespace Go.Proofs.YtfbdbebahpemhaaGreat
open Go.RowKit Go.ChangeShapes Go.WideShapes
set_option maxRecDepth 100000

theorem avs_core {H : Type} {enc : TypeId × Value → H} {W : World} {a : Option Addr} {len cap : Nat} {d : DataW H} {p : List MemPlace}
    (h : DataW.Trod enc Tryz.prog W 0 (fun _ => true) true 22 (.slice a len cap) d p) (hw : Wt Tryz.prog 22 d) :
    ∃ l, AvsAt W (.slice a len cap) l ∧ ∀ t ∈ l, t.val.size ≤ 140737488355328 := by
  rcases slice_came_wt Tryz.underlying22 h hw with ⟨rfl, rfl, rfl⟩ | ⟨q, rfl, hl, hm, hel⟩
  · exact ⟨[], AvsAt.nil _, by simp⟩
  have hn : Tryz.prog.cellsOf 59 = 5 := by kernel_rfl
  rw [hn] at hel
  obtain ⟨l, hll, hp⟩ := choose_list (p := fun i (t : Av) => AvAt W (q.add (i * 5)) t ∧ t.val.size ≤ 140737488355328) (fun i hi => by
    obtain ⟨cs, n, x, hc, ht, hwx⟩ := hel i hi
    obtain ⟨mu, h0⟩ := field_bool 0 Tryz.underlying59 ht rfl Tryz.underlying4 (by kernel_rfl)
    obtain ⟨hi, h1⟩ := field_bool 1 Tryz.underlying59 ht rfl Tryz.underlying4 (by kernel_rfl)
    obtain ⟨ve, h2, _⟩ := field_int 2 Tryz.underlying59 ht rfl Tryz.underlying3 (by kernel_rfl)
    obtain ⟨k, h3, _⟩ := field_int 3 Tryz.underlying59 ht rfl Tryz.underlying3 (by kernel_rfl)
    obtain ⟨s, h4, hsz⟩ := field_string_wt 4 Tryz.underlying59 ht hwx rfl Tryz.underlying9 (by kernel_rfl)
    have c0 := cell_of_cells hc 0 (by omega)
    have c1 := cell_of_cells hc 1 (by omega)
    have c2 := cell_of_cells hc 2 (by omega)
    have c3 := cell_of_cells hc 3 (by omega)
    have c4 := cell_of_cells hc 4 (by omega)
    exact ⟨⟨mu, hi, ve, k, s⟩, ⟨c0.trans h0, c1.trans h1, c2.trans h2, c3.trans h3, c4.trans h4⟩, Nat.le_trans hsz reach_le⟩)
  refine ⟨l, ⟨some q, cap, by rw [hll], by omega, hm, fun i t ht => ?_⟩, fun t ht => ?_⟩
  · exact ⟨q, rfl, (hp i t ht).1⟩
  · obtain ⟨i, hi⟩ := List.mem_iff_getElem?.1 ht
    exact (hp i t hi).2
theorem avs_in {H : Type} {enc : TypeId × Value → H} {W : World} {v : Value} {d : DataW H} {p : List MemPlace} {base : Nat}
    (h : DataW.Trod enc Tryz.prog W 0 (fun _ => true) true 22 v d p) (o : Value.okWide Tryz.prog W .any base 22 v) (hw : Wt Tryz.prog 22 d) :
    ∃ l, AvsAt W v l ∧ ∀ t ∈ l, t.val.size ≤ 140737488355328 := by
  obtain ⟨a, len, cap, rfl⟩ := okWide_slice Tryz.underlying22 o
  exact avs_core h hw
end Go.Proofs.YtfbdbebahpemhaaGreat
