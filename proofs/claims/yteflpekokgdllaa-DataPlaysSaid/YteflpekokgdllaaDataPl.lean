/- The walk of the statement DataPlays. -/
import Derived.Test.YteflpekokgdllaaDataAA
namespace Go.Proofs.Yteflpekokgdllaa
open Go.RowKit
set_option linter.unusedSimpArgs false
set_option linter.unusedVariables false
set_option maxRecDepth 20000

def OpAt (w : World) (p : Addr) (a : Int × Ld) : Prop :=
  w.cell? p = some (.int .i64 a.1) ∧ w.cell? ⟨p.block, p.off + 1, none⟩ = some (.int .i64 a.2.tunnel) ∧ w.cell? ⟨p.block, p.off + 1 + 1, none⟩ = some (.int .i64 a.2.session) ∧ w.cell? ⟨p.block, p.off + 1 + 2, none⟩ = some (.bool a.2.seq) ∧
  w.cell? ⟨p.block, p.off + 1 + 3, none⟩ = some (.int .i64 a.2.ns) ∧ w.cell? ⟨p.block, p.off + 1 + 4, none⟩ = some (.int .i64 a.2.nr) ∧ w.cell? ⟨p.block, p.off + 1 + 5, none⟩ = some (.string a.2.data)
theorem OpAt.upd {w w' : World} {p : Addr} {a : Int × Ld} (h : OpAt w p a) (hu : Upd [] w w') : OpAt w' p a := by
  obtain ⟨h1, h2, h3, h4, h5, h6, h7⟩ := h
  exact ⟨(hu.cell (cell_lt' h1) (by simp)).trans h1, (hu.cell (cell_lt' h2) (by simp)).trans h2, (hu.cell (cell_lt' h3) (by simp)).trans h3, (hu.cell (cell_lt' h4) (by simp)).trans h4, (hu.cell (cell_lt' h5) (by simp)).trans h5, (hu.cell (cell_lt' h6) (by simp)).trans h6, (hu.cell (cell_lt' h7) (by simp)).trans h7⟩
def OpsAt (w : World) (v : Value) (l : List (Int × Ld)) : Prop :=
  ∃ ao cap, v = .slice ao l.length cap ∧ l.length ≤ cap ∧ cap ≤ maxLen ∧ ∀ i a, l[i]? = some a → ∃ q, ao = some q ∧ OpAt w (q.add (i * 7)) a
theorem OpsAt.upd {w w' : World} {v : Value} {l : List (Int × Ld)} (h : OpsAt w v l) (hu : Upd [] w w') : OpsAt w' v l := by
  obtain ⟨ao, cap, rfl, h1, h2, h3⟩ := h
  refine ⟨ao, cap, rfl, h1, h2, fun i t ht => ?_⟩
  obtain ⟨q, rfl, k⟩ := h3 i t ht
  exact ⟨q, rfl, k.upd hu⟩
open Go.ChangeShapes Go.WideShapes in
theorem field_sub {H : Type} {enc : TypeId × Value → H} {P : Program} {W : World} {e : TypeId} {n : Nat} {cs : List Value} {x : DataW H × List MemPlace} {fs : Array Field} {f : Field} (i : Nat)
    (hs : P.underlying e = some (.struct fs)) (h : DataW.trod enc P W 0 (fun _ => true) true n e cs = some x) (hf : fs[i]? = some f) :
    ∃ m x', DataW.trod enc P W 0 (fun _ => true) true m f.type ((cs.drop f.offset).take (P.cellsOf f.type)) = some x' := by
  obtain ⟨xs, m, _, _, hl, hxs, hall⟩ := DataW.trod_struct hs h
  have h1 := hall i f hf
  have hi : i < xs.length := by rw [hxs]; exact (Array.getElem?_eq_some_iff.1 hf).1
  rw [List.getElem?_eq_getElem hi] at h1
  exact ⟨m, _, h1⟩
theorem drop_take_get {α : Type} (cs : List α) (a n j : Nat) (hj : j < n) : ((cs.drop a).take n)[j]? = cs[a + j]? := by
  rw [List.getElem?_take, if_pos hj, List.getElem?_drop]
open Go.ChangeShapes Go.WideShapes in
theorem ops_in {H : Type} {enc : TypeId × Value → H} {W : World} {v : Value} {d : DataW H} {p : List MemPlace} {base : Nat}
    (h : DataW.Trod enc Try.prog W 0 (fun _ => true) true 36 v d p) (o : Value.okWide Try.prog W .any base 36 v) : ∃ l, OpsAt W v l := by
  obtain ⟨a, len, cap, rfl⟩ := okWide_slice Try.underlying36 o
  rcases slice_came Try.underlying36 h with ⟨rfl, rfl, rfl⟩ | ⟨q, rfl, hl, hm, hel⟩
  · exact ⟨[], none, 0, rfl, by simp, by simp [maxLen], by simp⟩
  have hn : Try.prog.cellsOf 47 = 7 := by kernel_rfl
  rw [hn] at hel
  obtain ⟨l, hll, hp⟩ := choose_list (p := fun i (t : Int × Ld) => OpAt W (q.add (i * 7)) t) (fun i hi => by
    obtain ⟨cs, n, x, hc, ht⟩ := hel i hi
    obtain ⟨k, hk, _⟩ := field_int 0 Try.underlying47 ht rfl Try.underlying3 (by kernel_rfl)
    have hn6 : Try.prog.cellsOf 45 = 6 := by kernel_rfl
    obtain ⟨m, x', hsub⟩ : ∃ m x', DataW.trod enc Try.prog W 0 (fun _ => true) true m 45 ((cs.drop 1).take 6) = some x' := by
      obtain ⟨m, x', h⟩ := field_sub 1 Try.underlying47 ht rfl
      rw [← hn6]
      exact ⟨m, x', h⟩
    obtain ⟨tu, h0, _⟩ := field_int 0 Try.underlying45 hsub rfl Try.underlying3 (by kernel_rfl)
    obtain ⟨se, h1, _⟩ := field_int 1 Try.underlying45 hsub rfl Try.underlying3 (by kernel_rfl)
    obtain ⟨sq, h2⟩ := field_bool 2 Try.underlying45 hsub rfl Try.underlying4 (by kernel_rfl)
    obtain ⟨ns, h3, _⟩ := field_int 3 Try.underlying45 hsub rfl Try.underlying3 (by kernel_rfl)
    obtain ⟨nr, h4, _⟩ := field_int 4 Try.underlying45 hsub rfl Try.underlying3 (by kernel_rfl)
    obtain ⟨s, h5, _⟩ := field_string 5 Try.underlying45 hsub rfl Try.underlying9 (by kernel_rfl)
    have c0 := cell_of_cells hc 0 (by omega)
    have c1 := cell_of_cells hc 1 (by omega)
    have c2 := cell_of_cells hc 2 (by omega)
    have c3 := cell_of_cells hc 3 (by omega)
    have c4 := cell_of_cells hc 4 (by omega)
    have c5 := cell_of_cells hc 5 (by omega)
    have c6 := cell_of_cells hc 6 (by omega)
    refine ⟨(k, ⟨tu, se, sq, ns, nr, s⟩), c0.trans hk, c1.trans ?_, c2.trans ?_, c3.trans ?_, c4.trans ?_, c5.trans ?_, c6.trans ?_⟩
    · exact (drop_take_get cs 1 6 0 (by omega)).symm.trans h0
    · exact (drop_take_get cs 1 6 1 (by omega)).symm.trans h1
    · exact (drop_take_get cs 1 6 2 (by omega)).symm.trans h2
    · exact (drop_take_get cs 1 6 3 (by omega)).symm.trans h3
    · exact (drop_take_get cs 1 6 4 (by omega)).symm.trans h4
    · exact (drop_take_get cs 1 6 5 (by omega)).symm.trans h5)
  exact ⟨l, some q, cap, by rw [hll], by omega, hm, fun i t ht => ⟨q, rfl, hp i t ht⟩⟩
theorem lay_bd {x : Wy} (hx : x.ok) (d : ByteArray) (k : Int) (h : x.put ≤ k ∧ x.taken ≤ k ∧ x.missed ≤ k) (hk : k ≤ 1000) : (x.lay d).1.put ≤ k + 1 ∧ (x.lay d).1.taken ≤ k + 1 ∧ (x.lay d).1.missed ≤ k + 1 := by
  unfold Wy.lay
  have h1 : up1 x.put ≤ k + 1 := by unfold up1; omega
  split
  · exact ⟨by simp only; omega, by simp only; omega, by simp only; omega⟩
  · exact ⟨by simpa using h1, by simp only; omega, by simp only; omega⟩
theorem get_bd {x : Wy} (hx : x.ok) (l : Ld) (k : Int) (h : x.put ≤ k ∧ x.taken ≤ k ∧ x.missed ≤ k) (hk : k ≤ 1000) : (x.get l).1.put ≤ k + 1 ∧ (x.get l).1.taken ≤ k + 1 ∧ (x.get l).1.missed ≤ k + 1 := by
  unfold Wy.get
  have h1 : up1 x.taken ≤ k + 1 := by unfold up1; omega
  have h2 : up1 x.missed ≤ k + 1 := by unfold up1; omega
  split
  · split
    · exact ⟨by simp only; omega, by simp only; omega, by simpa using h2⟩
    · exact ⟨by simp only; omega, by simpa using h1, by simp only; omega⟩
  · exact ⟨by simp only; omega, by simpa using h1, by simp only; omega⟩

set_option maxHeartbeats 8000000 in
set_option maxRecDepth 100000 in
theorem dataPlays_any (t s : Int) (q : Bool) (l : List (Int × Ld)) (v : Value) (w : World) (hl : OpsAt w v l) :
    Calls Try.prog 4 #[.int .i64 t, .int .i64 s, .bool q, v] w fun e w' => e = .returned (.bool true) ∧ Upd [] w w' := by
  obtain ⟨aL, capL, rfl, hlc, hcm, -⟩ := id hl
  obtain ⟨L, hL⟩ : ∃ L, L = l.length := ⟨_, rfl⟩
  rw [← hL] at hl hlc ⊢
  have HIN := Lib.hid hl
  have HLL := Lib.hid hL
  simp only [maxLen] at hcm
  clear hl hL
  by_cases t0 : (300 : Int) < L
  · go_enter Try.func4, Try.ntmps4
    go_wp2_with fail
    refine (dalive_any _).mono ?_
    rintro e w2 ⟨rfl, hu2⟩
    go_wp2_with fail
    go_ret
    exact ⟨rfl, hu2⟩
  by_cases t1 : newOk t s = true
  rotate_left
  · have t1' : newOk t s = false := by simpa using t1
    have h0 := new_any t s q w
    have h1 := fun w1 => rNew_any t s q w1
    simp only [t1', Bool.false_eq_true, ↓reduceIte] at h0 h1
    have H0 := Lib.hid h0
    have H1 := Lib.hid h1
    clear t1 t1' h0 h1
    go_enter Try.func4, Try.ntmps4
    go_wp2_with fail
    refine H0.out.mono ?_
    rintro e w1 ⟨rfl, hu1⟩
    go_wp2_with fail
    refine (H1.out _).mono ?_
    rintro e w2 ⟨rfl, hu2⟩
    go_wp2_with fail
    refine (dalive_any _).mono ?_
    rintro e w3 ⟨rfl, hu3⟩
    go_wp2_with fail
    go_ret
    exact ⟨rfl, (hu1.trans hu2).trans hu3⟩
  have h0 := new_any t s q w
  have h1 := fun w1 => rNew_any t s q w1
  simp only [t1, ↓reduceIte] at h0 h1
  have H0 := Lib.hid h0
  have H1 := Lib.hid h1
  have HOK : Hid ((Wy.new t s q).ok) := at_ok (j := 0) t1 (by omega)
  clear h0 h1 t1
  go_enter Try.func4, Try.ntmps4
  go_wp2_with fail
  refine H0.out.mono ?_
  rintro e w1 ⟨rfl, hw1, hu1⟩
  obtain ⟨a, ha⟩ : ∃ a, a = w.heap.size := ⟨_, rfl⟩
  have HA1 : Hid (WyAt w1 a (Wy.new t s q)) := by rw [ha]; exact hw1
  have HU1 := Lib.hid hu1
  have hal : a < w1.heap.size := Blk.lt HA1.out
  rw [← ha]
  have HAA : Hid (w.heap.size ≤ a) := by show _ ≤ _; omega
  clear hw1 hu1 ha
  go_wp2_with fail
  refine (H1.out _).mono ?_
  rintro e w2 ⟨rfl, hw2, hu2⟩
  obtain ⟨b, hb⟩ : ∃ b, b = w1.heap.size := ⟨_, rfl⟩
  have HB2 : Hid (RwAt w2 b (Wy.new t s q)) := by rw [hb]; exact hw2
  have HA2 : Hid (WyAt w2 a (Wy.new t s q)) := HA1.out.upd hu2 (by simp)
  have hab : a < b := by omega
  have HU2 : Hid (Upd [] w w2) := HU1.out.trans hu2
  rw [← hb]
  clear hw2 hu2 hb hal
  go_wp2_with fail
  go_loopg [13] L (fun m s13 wr => ∃ (k : Nat) (x : Wy), k + m = L ∧ s13 = .int .i64 k ∧ WyAt wr a x ∧ RwAt wr b x ∧ x.ok ∧ (x.put ≤ k ∧ x.taken ≤ k ∧ x.missed ≤ k) ∧ Upd [] w wr)
  case atStart => exact ⟨0, _, by omega, rfl, HA2.out, HB2.out, HOK.out, by simp [Wy.new], HU2.out⟩
  case round =>
    obtain ⟨k, x, hk, rfl, hwa, hwb, hok, hbd, hu⟩ := hrel
    have HA := Lib.hid hwa
    have HB := Lib.hid hwb
    have HO := Lib.hid hok
    have HBD := Lib.hid hbd
    have HU := Lib.hid hu
    have hkL : k ≤ L := by omega
    clear hwa hwb hok hbd
    by_cases tk : k < L
    rotate_left
    · obtain rfl : k = L := by omega
      clear hu
      have hzl : Ld.zero.agg = .agg #[.int .i64 0, .int .i64 0, .bool false, .int .i64 0, .int .i64 0, .string ⟨#[]⟩] := rfl
      have hg0 := fun W => wayGet_nil Ld.zero W
      rw [hzl] at hg0
      have HG0 := Lib.hid hg0
      clear hg0 hzl
      go_wp2_with fail
      refine (wayPut_nil _ _).mono ?_
      rintro e w3 ⟨rfl, hu3⟩
      go_wp2_with fail
      refine (HG0.out _).mono ?_
      rintro e w4 ⟨rfl, hu4⟩
      go_wp2_with fail
      refine (counts_nil _).mono ?_
      rintro e w5 ⟨rfl, hu5⟩
      go_wp2_with fail
      refine (dalive_any _).mono ?_
      rintro e w6 ⟨rfl, hu6⟩
      go_wp2_with fail
      go_ret
      exact ⟨rfl, HU.out.trans (hu3.trans (hu4.trans (hu5.trans hu6)))⟩
    obtain ⟨op, hop⟩ : ∃ x, l[k]? = some x := ⟨_, List.getElem?_eq_getElem (by have := HLL.out; omega)⟩
    obtain ⟨aL', capL', e0, -, -, h3⟩ := HIN.out.upd hu
    injection e0 with e0 e1 e2
    subst e0 e2
    clear e1
    obtain ⟨qp, rfl, hat⟩ := h3 k op hop
    have HRD : Hid (∀ V, Upd [] w V → OpAt V (qp.add (k * 7)) op) := fun V hv => by
      obtain ⟨a', c', e0, -, -, h3'⟩ := HIN.out.upd hv
      injection e0 with e0 e1 e2
      obtain ⟨q', e, h⟩ := h3' k op hop
      rw [← e0] at e
      injection e with e
      rw [e]
      exact h
    obtain ⟨c0, c1, c2, c3, c4, c5, c6⟩ := hat
    obtain ⟨kd, tu, se, sq, ns, nr, d⟩ := op
    simp only at c0 c1 c2 c3 c4 c5 c6
    clear h3 hu hop
    by_cases td : (2000 : Int) < d.size
    · go_wp2_with fail
      go_ret
      exact ⟨rfl, HU.out⟩
    by_cases tkd : kd = 1
    focus
      subst tkd
      obtain ⟨X, hX⟩ : ∃ X, x.lay d = X := ⟨_, rfl⟩
      have hxo := Wy.lay_ok HO.out d
      have hxb := lay_bd HO.out d k HBD.out (by omega)
      rw [hX] at hxo hxb
      obtain ⟨x', S, E⟩ := X
      simp only at hxo hxb
      have HX := Lib.hid hX
      have HXO := Lib.hid hxo
      have HXB := Lib.hid hxb
      clear hX hxo hxb
      go_wp2_with fail
      refine (wayPut_any a x d _ HA.out HO.out (by simp only [maxLen]; omega)).mono ?_
      rintro e w3 ⟨rfl, hw3, hu3⟩
      rw [HX.out] at hw3 ⊢
      have HA3 := Lib.hid hw3
      have HB3 : Hid (RwAt w3 b x) := HB.out.upd hu3 (by simp; omega)
      have HU3 : Hid (Upd [] w w3) := HU.out.trans' hu3 (fun y hy => .inr (by have := HAA.out; simp at hy; omega))
      clear hw3 hu3 c0 c1 c2 c3 c4 c5 c6
      obtain ⟨c0, c1, c2, c3, c4, c5, c6⟩ := HRD.out _ HU3.out
      go_wp2_with fail
      refine (rPut_any b x d _ HB3.out HO.out (by simp only [maxLen]; omega) (by have := HBD.out; omega)).mono ?_
      rintro e w4 ⟨rfl, hw4, hu4⟩
      rw [HX.out] at hw4 ⊢
      have HB4 := Lib.hid hw4
      have HA4 : Hid (WyAt w4 a x') := HA3.out.upd hu4 (by simp; omega)
      have HU4 : Hid (Upd [] w w4) := HU3.out.trans' hu4 (fun y hy => .inr (by have := HAA.out; simp at hy; omega))
      clear hw4 hu4 c0 c1 c2 c3 c4 c5 c6
      go_wp2_with fail
      clear HX
    rotate_left
    focus
      have tkd' : (kd == 1) = false := by simpa using tkd
      clear tkd
      obtain ⟨X, hX⟩ : ∃ X, x.get ⟨tu, se, sq, ns, nr, d⟩ = X := ⟨_, rfl⟩
      have hxo := Wy.get_ok HO.out ⟨tu, se, sq, ns, nr, d⟩
      have hxb := get_bd HO.out ⟨tu, se, sq, ns, nr, d⟩ k HBD.out (by omega)
      rw [hX] at hxo hxb
      obtain ⟨x', S, E⟩ := X
      simp only at hxo hxb
      have HX := Lib.hid hX
      have HXO := Lib.hid hxo
      have HXB := Lib.hid hxb
      clear hX hxo hxb
      go_wp2_with fail
      refine (wayGet_any a x ⟨tu, se, sq, ns, nr, d⟩ _ HA.out HO.out).mono ?_
      rintro e w3 ⟨rfl, hw3, hu3⟩
      rw [HX.out] at hw3 ⊢
      have HA3 := Lib.hid hw3
      have HB3 : Hid (RwAt w3 b x) := HB.out.upd hu3 (by simp; omega)
      have HU3 : Hid (Upd [] w w3) := HU.out.trans' hu3 (fun y hy => .inr (by have := HAA.out; simp at hy; omega))
      clear hw3 hu3 c0 c1 c2 c3 c4 c5 c6
      obtain ⟨c0, c1, c2, c3, c4, c5, c6⟩ := HRD.out _ HU3.out
      go_wp2_with fail
      refine (rGet_any b x ⟨tu, se, sq, ns, nr, d⟩ _ HB3.out HO.out (by have := HBD.out; omega)).mono ?_
      rintro e w4 ⟨rfl, hw4, hu4⟩
      rw [HX.out] at hw4 ⊢
      have HB4 := Lib.hid hw4
      have HA4 : Hid (WyAt w4 a x') := HA3.out.upd hu4 (by simp; omega)
      have HU4 : Hid (Upd [] w w4) := HU3.out.trans' hu4 (fun y hy => .inr (by have := HAA.out; simp at hy; omega))
      clear hw4 hu4 c0 c1 c2 c3 c4 c5 c6
      go_wp2_with fail
      clear HX
    all_goals
      have htn : x'.tunnel ≠ 0 := by have := HXO.out.tunnel; omega
      have HTN := Lib.hid htn
      clear htn
      refine (counts_any a x' _ HA4.out HTN.out).mono ?_
      rintro e w5 ⟨rfl, hu5⟩
      have HB5 : Hid (RwAt w5 b x') := HB4.out.upd hu5 (by simp)
      have HA5 : Hid (WyAt w5 a x') := HA4.out.upd hu5 (by simp)
      have HU5 : Hid (Upd [] w w5) := HU4.out.trans hu5
      have g6 := Blk.cell HB5.out 6
      have g7 := Blk.cell HB5.out 7
      have g8 := Blk.cell HB5.out 8
      simp [Wy.rcells] at g6 g7 g8
      clear hu5
      go_wp2_with fail
      go_roundg (L - (k + 1))
      case rel => exact ⟨k + 1, x', by omega, by go_num, HA5.out, HB5.out, HXO.out, by have := HXB.out; omega, HU5.out⟩
      case measure => omega
open Go.ChangeShapes Go.WideShapes in
theorem dataPlays_walk {H : Type} {enc : TypeId × Value → H} (t : Int) (_ : (Lit.int .i64 t).wf = true) (s : Int) (_ : (Lit.int .i64 s).wf = true) (q : Bool) {v3 : Value} {d3 : DataW H} {p3 : List MemPlace} {W : World} {base : Nat}
    (h3 : DataW.Trod enc Try.prog W 0 (fun _ => true) true 36 v3 d3 p3) (o3 : Value.okWide Try.prog W .any base 36 v3) :
    Calls Try.prog 4 #[.int .i64 t, .int .i64 s, .bool q, v3] W fun e w' => e = .returned (.bool true) ∧ Below W.heap.size W w' := by
  obtain ⟨l, hl⟩ := ops_in h3 o3
  exact (dataPlays_any t s q l v3 W hl).mono fun e w' ⟨he, hu⟩ => ⟨he, hu.below⟩
end Go.Proofs.Yteflpekokgdllaa
