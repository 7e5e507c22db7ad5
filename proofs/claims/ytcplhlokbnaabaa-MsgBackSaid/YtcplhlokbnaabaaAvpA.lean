/- The walks of slices.Equal, slices.IndexFunc at values (Avp), of avp.Same, avp.Find. -/
import Derived.Test.YtcplhlokbnaabaaProg
import Derived.Test.YtcplhlokbnaabaaAvs
import Derived.Test.YtcplhlokbnaabaaFacts
namespace Go.Proofs.Ytcplhlokbnaabaa
open Go.RowKit
set_option linter.unusedSimpArgs false
set_option maxRecDepth 20000
set_option linter.unusedVariables false

theorem av_ite {α : Type} (x y : Av) (A B : α) :
    (if x.must = y.must then if x.hidden = y.hidden then if x.vendor = y.vendor then if x.kind = y.kind then if x.val.toList = y.val.toList then A else B else B else B else B else B) = if x = y then A else B := by
  obtain ⟨a, b, c, d, e⟩ := x
  obtain ⟨a', b', c', d', e'⟩ := y
  simp only [Av.mk.injEq, str_inj']
  by_cases h1 : a = a' <;> by_cases h2 : b = b' <;> by_cases h3 : c = c' <;> by_cases h4 : d = d' <;> by_cases h5 : e = e' <;> simp [h1, h2, h3, h4, h5]

set_option maxHeartbeats 1000000 in
theorem equal_av (l m : List Av) (v u : Value) (w : World) (hl : AvsAt w v l) (hm : AvsAt w u m) :
    Calls Try.prog 26 #[v, u] w fun e w' => e = .returned (.bool (decide (l = m))) ∧ Upd [] w w' := by
  obtain ⟨ao, cap, rfl, h1, h2, h3⟩ := id hl
  obtain ⟨bo, cbp, rfl, g1, g2, g3⟩ := id hm
  obtain ⟨n, hn⟩ : ∃ n, n = l.length := ⟨_, rfl⟩
  obtain ⟨j, hj⟩ : ∃ n, n = m.length := ⟨_, rfl⟩
  rw [← hn] at h1
  rw [← hj] at g1
  rw [← hn, ← hj]
  have HL := Lib.hid hl
  have HM := Lib.hid hm
  have HN := Lib.hid hn
  have HJ := Lib.hid hj
  simp only [maxLen] at h2 g2
  clear h3 g3 hl hn hm hj
  by_cases tn : n = j
  rotate_left
  · have hne : Hid (decide (l = m) = false) := by
      show _ = _
      rw [decide_eq_false_iff_not]
      rintro rfl
      exact tn (HN.out.trans HJ.out.symm)
    rw [hne.out]
    go_enter Try.func26, Try.ntmps26
    go_wp2
    go_ret
    exact ⟨rfl, Upd.refl _ _⟩
  subst tn
  go_enter Try.func26, Try.ntmps26
  go_wp2
  go_loopg [13] n (fun x s13 wr => ∃ k : Nat, k + x = n ∧ s13 = .int .i64 k ∧ l.take k = m.take k ∧ Upd [] w wr)
  case atStart => exact ⟨0, by omega, rfl, rfl, Upd.refl _ _⟩
  case round =>
    obtain ⟨k, hk, rfl, hp, hu⟩ := hrel
    by_cases t : k < n
    · obtain ⟨x, hx⟩ : ∃ x, l[k]? = some x := by
        have := HN.out
        exact ⟨_, List.getElem?_eq_getElem (by omega)⟩
      obtain ⟨y, hy⟩ : ∃ x, m[k]? = some x := by
        have := HJ.out
        exact ⟨_, List.getElem?_eq_getElem (by omega)⟩
      obtain ⟨ao', cap', e0, _, _, h3⟩ := HL.out.upd hu
      injection e0 with e0 _ e2
      subst e0 e2
      obtain ⟨q, rfl, c0, c1, c2, c3, c4⟩ := h3 k x hx
      clear h3
      obtain ⟨ao', cap', e0, _, _, h3⟩ := HM.out.upd hu
      injection e0 with e0 _ e2
      subst e0 e2
      obtain ⟨q', rfl, d0, d1, d2, d3, d4⟩ := h3 k y hy
      clear h3
      have HX := Lib.hid (And.intro hx (And.intro hy (And.intro hp hu)))
      clear hx hy hp hu
      have hcells : ∀ W, Upd [] wr W → AvAt W (q.add (k * 5)) x ∧ AvAt W (q'.add (k * 5)) y := fun W hu => ⟨AvAt.upd ⟨c0, c1, c2, c3, c4⟩ hu, AvAt.upd ⟨d0, d1, d2, d3, d4⟩ hu⟩
      simp only [AvAt] at hcells
      clear c0 c1 c2 c3 c4 d0 d1 d2 d3 d4
      go_wp2_with fail
      refine wp_region_facts (.pure) (trivial) [.is (.slice (some q) n cap), .is (.int .i64 k), .is (.pointer (some (q.add (k * 5)))), .is (.agg #[.bool x.must, .bool x.hidden, .int .i64 x.vendor, .int .i64 x.kind, .string x.val]), .is (.slice (some q') n cbp), .is (.int .i64 k), .is (.pointer (some (q'.add (k * 5)))), .is (.agg #[.bool y.must, .bool y.hidden, .int .i64 y.vendor, .int .i64 y.kind, .string y.val]), .is (.bool (decide (x ≠ y)))] (by kernel_rfl) (by kernel_rfl) (by kernel_rfl) (by kernel_rfl) ?_ ?_
      · refine Steps.cons ?_ (Steps.cons ?_ (Steps.cons ?_ (Steps.cons ?_ (Steps.cons ?_ (Steps.cons ?_ (Steps.cons ?_ (Steps.cons ?_ (Steps.cons ?_ Steps.nil))))))))
        · refine step_is _ rfl ⟨_, rfl⟩ rfl (fun _ _ => trivial) ?_
          intro a W hi hF hD
          have hu := hi.upd
          have e0 : a.tmps[0]?.getD undef = _ := (ev a 0).symm.trans (hF 0 (by kernel_rfl))
          clear hF hD
          have hc := hcells W hu
          go_simp
        · refine step_is _ rfl ⟨_, rfl⟩ rfl (fun _ _ => trivial) ?_
          intro a W hi hF hD
          have hu := hi.upd
          have e5 : a.tmps[5]?.getD undef = _ := (ev a 5).symm.trans (hF 5 (by kernel_rfl))
          clear hF hD
          have hc := hcells W hu
          go_simp
        · refine step_is _ rfl ⟨_, rfl⟩ rfl (fun _ _ => trivial) ?_
          intro a W hi hF hD
          have hu := hi.upd
          have e16 : a.tmps[16]?.getD undef = .slice (some q) n cap := (ev a 16).symm.trans (hD _ (Array.mem_of_getElem? (i := 0) rfl) rfl).1
          have e17 : a.tmps[17]?.getD undef = .int .i64 k := (ev a 17).symm.trans (hD _ (Array.mem_of_getElem? (i := 1) rfl) rfl).1
          clear hF hD
          have hc := hcells W hu
          go_simp
        · refine step_is _ rfl ⟨_, rfl⟩ rfl (fun _ _ => trivial) ?_
          intro a W hi hF hD
          have hu := hi.upd
          have e18 : a.tmps[18]?.getD undef = .pointer (some (q.add (k * 5))) := (ev a 18).symm.trans (hD _ (Array.mem_of_getElem? (i := 0) rfl) rfl).1
          clear hF hD
          have hc := hcells W hu
          go_simp
        · refine step_is _ rfl ⟨_, rfl⟩ rfl (fun _ _ => trivial) ?_
          intro a W hi hF hD
          have hu := hi.upd
          have e1 : a.tmps[1]?.getD undef = _ := (ev a 1).symm.trans (hF 1 (by kernel_rfl))
          clear hF hD
          have hc := hcells W hu
          go_simp
        · refine step_is _ rfl ⟨_, rfl⟩ rfl (fun _ _ => trivial) ?_
          intro a W hi hF hD
          have hu := hi.upd
          have e5 : a.tmps[5]?.getD undef = _ := (ev a 5).symm.trans (hF 5 (by kernel_rfl))
          clear hF hD
          have hc := hcells W hu
          go_simp
        · refine step_is _ rfl ⟨_, rfl⟩ rfl (fun _ _ => trivial) ?_
          intro a W hi hF hD
          have hu := hi.upd
          have e20 : a.tmps[20]?.getD undef = .slice (some q') n cbp := (ev a 20).symm.trans (hD _ (Array.mem_of_getElem? (i := 0) rfl) rfl).1
          have e21 : a.tmps[21]?.getD undef = .int .i64 k := (ev a 21).symm.trans (hD _ (Array.mem_of_getElem? (i := 1) rfl) rfl).1
          clear hF hD
          have hc := hcells W hu
          go_simp
        · refine step_is _ rfl ⟨_, rfl⟩ rfl (fun _ _ => trivial) ?_
          intro a W hi hF hD
          have hu := hi.upd
          have e22 : a.tmps[22]?.getD undef = .pointer (some (q'.add (k * 5))) := (ev a 22).symm.trans (hD _ (Array.mem_of_getElem? (i := 0) rfl) rfl).1
          clear hF hD
          have hc := hcells W hu
          go_simp
        · refine step_is _ rfl ⟨_, rfl⟩ rfl (fun _ _ => trivial) ?_
          intro a W hi hF hD
          have hu := hi.upd
          have e19 : a.tmps[19]?.getD undef = .agg #[.bool x.must, .bool x.hidden, .int .i64 x.vendor, .int .i64 x.kind, .string x.val] := (ev a 19).symm.trans (hD _ (Array.mem_of_getElem? (i := 0) rfl) rfl).1
          have e23 : a.tmps[23]?.getD undef = .agg #[.bool y.must, .bool y.hidden, .int .i64 y.vendor, .int .i64 y.kind, .string y.val] := (ev a 23).symm.trans (hD _ (Array.mem_of_getElem? (i := 1) rfl) rfl).1
          clear hF hD
          have hc := hcells W hu
          go_simp
          rw [av_ite]
          by_cases h : x = y
          · simp [h]
          · simp [h]
      intro vals W hu hv
      have v0 : vals 0 = .slice (some q) n cap := (hv 0 (by decide)).1
      have v1 : vals 1 = .int .i64 k := (hv 1 (by decide)).1
      have v2 : vals 2 = .pointer (some (q.add (k * 5))) := (hv 2 (by decide)).1
      have v3 : vals 3 = .agg #[.bool x.must, .bool x.hidden, .int .i64 x.vendor, .int .i64 x.kind, .string x.val] := (hv 3 (by decide)).1
      have v4 : vals 4 = .slice (some q') n cbp := (hv 4 (by decide)).1
      have v5 : vals 5 = .int .i64 k := (hv 5 (by decide)).1
      have v6 : vals 6 = .pointer (some (q'.add (k * 5))) := (hv 6 (by decide)).1
      have v7 : vals 7 = .agg #[.bool y.must, .bool y.hidden, .int .i64 y.vendor, .int .i64 y.kind, .string y.val] := (hv 7 (by decide)).1
      have v8 : vals 8 = .bool (decide (x ≠ y)) := (hv 8 (by decide)).1
      clear hv
      simp only [putAll, Act.put, Nat.zero_add, Nat.reduceAdd, v0, v1, v2, v3, v4, v5, v6, v7, v8, List.setIfInBounds_toArray, List.set_cons_zero, List.set_cons_succ]
      clear v0 v1 v2 v3 v4 v5 v6 v7 v8
      have HU := Lib.hid hu
      clear hu hcells
      by_cases hxy : x = y
      · have he : decide (x ≠ y) = false := by simp [hxy]
        rw [he]
        have HXY := Lib.hid hxy
        clear hxy he
        go_wp2_with fail
        go_roundg (n - (k + 1))
        case rel =>
          refine ⟨k + 1, by omega, by go_num, ?_, HX.out.2.2.2.trans HU.out⟩
          rw [List.take_add_one, List.take_add_one, HX.out.2.2.1, HX.out.1, HX.out.2.1, HXY.out]
        case measure => omega
      · have he : decide (x ≠ y) = true := by simp [hxy]
        rw [he]
        have hne : Hid (decide (l = m) = false) := by
          show _ = _
          rw [decide_eq_false_iff_not]
          rintro rfl
          have := HX.out.1.symm.trans HX.out.2.1
          injection this with this
          exact hxy this
        clear hxy he
        go_wp2_with fail
        go_ret
        rw [hne.out]
        exact ⟨rfl, HX.out.2.2.2.trans HU.out⟩
    · obtain rfl : k = n := by omega
      have he : Hid (decide (l = m) = true) := by
        show _ = _
        rw [decide_eq_true_iff]
        have h7 := hp
        rw [List.take_of_length_le (by rw [← HN.out]; exact Nat.le_refl _), List.take_of_length_le (by rw [← HJ.out]; exact Nat.le_refl _)] at h7
        exact h7
      clear hp
      go_wp2
      go_ret
      rw [he.out]
      exact ⟨rfl, hu⟩
set_option maxHeartbeats 400000 in
theorem same_av (l m : List Av) (v u : Value) (w : World) (hl : AvsAt w v l) (hm : AvsAt w u m) :
    Calls Try.prog 14 #[v, u] w fun e w' => e = .returned (.bool (decide (l = m))) ∧ Upd [] w w' := by
  have HL := Lib.hid hl
  have HM := Lib.hid hm
  clear hl hm
  go_enter Try.func14, Try.ntmps14
  go_wp2_with fail
  refine (equal_av l m _ _ _ HL.out HM.out).mono ?_
  rintro e w1 ⟨rfl, hu1⟩
  go_wp2_with fail
  go_ret
  exact ⟨rfl, hu1⟩
/-- The place of the first one that is so, or -1. -/
def ixa (p : Av → Bool) : List Av → Nat → Int
  | [], _ => -1
  | t :: l, k => if p t = true then k else ixa p l (k + 1)
theorem ixa_any (p : Av → Bool) (l : List Av) (k : Nat) : decide (0 ≤ ixa p l k) = l.any p := by
  induction l generalizing k with
  | nil => simp [ixa]
  | cons t l ih =>
    rw [ixa, List.any_cons]
    cases h : p t with
    | true => simp
    | false => simp [ih]

set_option maxHeartbeats 1000000 in
theorem indexAv_any (f : Nat) (c : Value) (p : Av → Bool) (l : List Av) (v : Value) (w : World) (hl : AvsAt w v l)
    (hcf : ∀ x W, (callFunc f #[x, c]).run Try.prog W = .ok (.enter f #[x, c]) W)
    (hf : ∀ t ∈ l, ∀ W : World, Upd [] w W → Calls Try.prog f #[t.agg, c] W fun e w' => e = .returned (.bool (p t)) ∧ Upd [] W w') :
    Calls Try.prog 35 #[v, .func (.func f) #[] #[c]] w fun e w' => e = .returned (.int .i64 (ixa p l 0)) ∧ Upd [] w w' := by
  obtain ⟨ao, cap, rfl, h1, h2, h3⟩ := id hl
  obtain ⟨n, hn⟩ : ∃ n, n = l.length := ⟨_, rfl⟩
  rw [← hn] at h1
  rw [← hn]
  have HL := Lib.hid hl
  have HN := Lib.hid hn
  have HF := Lib.hid hf
  simp only [maxLen] at h2
  clear h3 hl hn hf
  go_enter Try.func35, Try.ntmps35
  go_wp2
  go_loopg [8] n (fun m s8 wr => ∃ k : Nat, k + m = n ∧ s8 = .int .i64 k ∧ ixa p (l.drop k) k = ixa p l 0 ∧ Upd [] w wr)
  case atStart => exact ⟨0, by omega, rfl, rfl, Upd.refl _ _⟩
  case round =>
    obtain ⟨k, hk, rfl, hi, hu⟩ := hrel
    by_cases t : k < n
    · obtain ⟨x, hx⟩ : ∃ x, l[k]? = some x := by
        have := HN.out
        exact ⟨_, List.getElem?_eq_getElem (by omega)⟩
      have HC := Lib.hid (HF.out x (List.mem_of_getElem? hx))
      obtain ⟨ao', cap', e0, _, _, h3⟩ := HL.out.upd hu
      injection e0 with e0 _ e2
      subst e0 e2
      obtain ⟨q, rfl, c0, c1, c2, c3, c4⟩ := h3 k x hx
      clear h3
      have hd : l.drop k = x :: l.drop (k + 1) := by
        obtain ⟨h5, h6⟩ := List.getElem?_eq_some_iff.1 hx
        rw [List.drop_eq_getElem_cons h5, h6]
      rw [hd, ixa] at hi
      have HI := Lib.hid hi
      have HU := Lib.hid hu
      clear hi hd hu hx
      by_cases t1 : p x = true
      · go_wp2_with fail
        refine (HC.out _ HU.out).mono ?_
        rintro e w' ⟨rfl, hu2⟩
        rw [t1]
        have HU2 := Lib.hid (HU.out.trans hu2)
        clear hu2
        go_wp2
        go_ret
        exact ⟨by rw [← HI.out, if_pos t1]; rfl, HU2.out⟩
      · have t1 : p x = false := by simpa using t1
        go_wp2_with fail
        refine (HC.out _ HU.out).mono ?_
        rintro e w' ⟨rfl, hu2⟩
        rw [t1]
        have HU2 := Lib.hid (HU.out.trans hu2)
        clear hu2
        go_wp2
        go_roundg (n - (k + 1))
        case rel => exact ⟨k + 1, by omega, by go_num, by rw [← HI.out, if_neg (by simp [t1])], HU2.out⟩
        case measure => omega
    · obtain rfl : k = n := by omega
      have hd : l.drop k = [] := by rw [HN.out]; simp
      rw [hd] at hi
      have HI := Lib.hid hi
      clear hi hd
      go_wp2
      go_ret
      exact ⟨by rw [← HI.out]; rfl, hu⟩

theorem ixa_spec (p : Av → Bool) (l : List Av) (k : Nat) : (ixa p l k = -1 ∧ l.find? p = none) ∨ ∃ (i : Nat) (t : Av), ixa p l k = ((k + i : Nat) : Int) ∧ l[i]? = some t ∧ l.find? p = some t := by
  induction l generalizing k with
  | nil => exact .inl ⟨rfl, rfl⟩
  | cons t l ih =>
    rw [ixa]
    by_cases h : p t = true
    · rw [if_pos h]
      exact .inr ⟨0, t, rfl, rfl, by simp [h]⟩
    · rw [if_neg h]
      have h' : p t = false := by simpa using h
      rcases ih (k + 1) with ⟨h1, h2⟩ | ⟨i, x, h1, h2, h3⟩
      · exact .inl ⟨h1, by simp [h', h2]⟩
      · exact .inr ⟨i + 1, x, by rw [h1]; congr 1; omega, by simpa using h2, by simp [h', h3]⟩
def avIs (kind : Int) (t : Av) : Bool := t.vendor == 0 && t.kind == kind
def findAv (kind : Int) (l : List Av) : ByteArray × Bool := match l.find? (avIs kind) with
  | some t => (t.val, true)
  | none => (⟨#[]⟩, false)

set_option maxHeartbeats 400000 in
theorem avFind1_any (kind : Int) (t : Av) (g : Nat) (w : World) (hg : w.cell? ⟨g, 0, none⟩ = some (.int .i64 kind)) :
    Calls Try.prog 36 #[t.agg, .pointer (some ⟨g, 0, none⟩)] w fun e w' => e = .returned (.bool (avIs kind t)) ∧ Upd [] w w' := by
  obtain ⟨mu, hi, ve, k, s⟩ := t
  simp only [Av.agg, avIs]
  have hc := ((Upd.refl [] w).alloc (Obj.cells #[Value.bool mu, Value.bool hi, Value.int IntKind.i64 ve, Value.int IntKind.i64 k, Value.string s] 27)).cell (p := ⟨g, 0, none⟩) (cell_lt' hg) (by simp)
  rw [hg] at hc
  have hlt := cell_lt' hg
  simp only at hlt
  cases hb : (ve == 0)
  all_goals
    simp only [Bool.true_and, Bool.false_and]
    go_enter Try.func36, Try.ntmps36
    go_wp2_with fail
    go_ret
    exact ⟨rfl, (Upd.refl _ _).alloc _⟩

set_option maxHeartbeats 1000000 in
theorem avFind_any (l : List Av) (v : Value) (kind : Int) (w : World) (hl : AvsAt w v l) :
    Calls Try.prog 24 #[v, .int .i64 kind] w fun e w' => e = .returned (.tuple #[.string (findAv kind l).1, .bool (findAv kind l).2]) ∧ Upd [] w w' := by
  obtain ⟨ao, cap, rfl, h1, h2, -⟩ := id hl
  obtain ⟨n, hn⟩ : ∃ n, n = l.length := ⟨_, rfl⟩
  rw [← hn] at h1
  rw [← hn]
  have HL := Lib.hid hl
  have HN := Lib.hid hn
  simp only [maxLen] at h2
  clear hl hn
  have A0 := Blk.new w 3 #[Value.int IntKind.i64 kind]
  have U0 := Lib.hid ((Upd.refl [] w).alloc (Obj.cells #[Value.int IntKind.i64 kind] 3))
  have HA : Hid (∀ W, Upd [] (w.alloc (Obj.cells #[Value.int IntKind.i64 kind] 3)) W → W.cell? ⟨w.heap.size, 0, none⟩ = some (.int .i64 kind)) := fun W hu => (A0.upd hu (by simp)).cell 0
  clear A0
  have HS := Lib.hid (ixa_spec (avIs kind) l 0)
  go_enter Try.func24, Try.ntmps24
  go_wp2_with fail
  refine (indexAv_any 36 _ (avIs kind) l _ _ ((by rw [HN.out]; exact HL.out : AvsAt w (.slice ao n cap) l).upd U0.out) (fun _ _ => by kernel_rfl) (fun t ht W hu => avFind1_any kind t _ W (HA.out W hu))).mono ?_
  rintro e w1 ⟨rfl, hu⟩
  have HU := Lib.hid (U0.out.trans hu)
  clear hu
  rcases HS.out with ⟨h1, h2⟩ | ⟨i, t, h1, h2, h3⟩
  · rw [h1]
    have HF : Hid (findAv kind l = (⟨#[]⟩, false)) := by show _ = _; rw [findAv, h2]
    clear h1 h2
    go_wp2_with fail
    go_ret2
    rw [HF.out]
    exact ⟨rfl, HU.out⟩
  · rw [h1, Nat.zero_add]
    have HF : Hid (findAv kind l = (t.val, true)) := by show _ = _; rw [findAv, h3]
    have hil : i < n := by rw [HN.out]; exact (List.getElem?_eq_some_iff.1 h2).1
    obtain ⟨ao', cap', e0, _, _, h4⟩ := HL.out.upd HU.out
    injection e0 with e0 _ e2
    subst e0 e2
    obtain ⟨q, rfl, c0, c1, c2, c3, c4⟩ := h4 i t h2
    clear h4 h1 h2 h3
    go_wp2_with fail
    go_ret2
    rw [HF.out]
    exact ⟨rfl, HU.out⟩

end Go.Proofs.Ytcplhlokbnaabaa
