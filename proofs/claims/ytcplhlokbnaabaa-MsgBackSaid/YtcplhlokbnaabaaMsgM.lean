/- The walks of the document's Same, SameCtl, at equal values. -/
import Derived.Test.YtcplhlokbnaabaaMsgI
namespace Go.Proofs.Ytcplhlokbnaabaa
open Go.RowKit
set_option linter.unusedSimpArgs false
set_option linter.unusedVariables false
set_option maxRecDepth 20000

set_option maxHeartbeats 2000000 in
theorem sameRef_eq (l : List Av) (v u : Value) (w : World) (hl : AvsAt w v l) (hm : AvsAt w u l) :
    Calls Try.prog 32 #[v, u] w fun e w' => e = .returned (.bool true) ∧ Upd [] w w' := by
  obtain ⟨ao, cap, rfl, h1, h2, h3⟩ := id hl
  obtain ⟨bo, cbp, rfl, g1, g2, g3⟩ := id hm
  obtain ⟨n, hn⟩ : ∃ n, n = l.length := ⟨_, rfl⟩
  rw [← hn] at h1 g1
  rw [← hn]
  have HL := Lib.hid hl
  have HM := Lib.hid hm
  have HN := Lib.hid hn
  simp only [maxLen] at h2 g2
  clear h3 g3 hl hn hm
  go_enter Try.func32, Try.ntmps32
  go_wp2
  go_loopg [5] n (fun x s5 wr => ∃ k : Nat, k + x = n ∧ s5 = .int .i64 k ∧ Upd [] w wr)
  case atStart => exact ⟨0, by omega, rfl, Upd.refl _ _⟩
  case round =>
    obtain ⟨k, hk, rfl, hu⟩ := hrel
    by_cases t : k < n
    · obtain ⟨x, hx⟩ : ∃ x, l[k]? = some x := by
        have := HN.out
        exact ⟨_, List.getElem?_eq_getElem (by omega)⟩
      obtain ⟨ao', cap', e0, _, _, h3⟩ := HL.out.upd hu
      injection e0 with e0 _ e2
      subst e0 e2
      obtain ⟨q, rfl, c0, c1, c2, c3, c4⟩ := h3 k x hx
      clear h3
      obtain ⟨ao', cap', e0, _, _, h3⟩ := HM.out.upd hu
      injection e0 with e0 _ e2
      subst e0 e2
      obtain ⟨q', rfl, d0, d1, d2, d3, d4⟩ := h3 k x hx
      clear h3 hx
      have hcells : ∀ W, Upd [] wr W → AvAt W (q.add (k * 5)) x ∧ AvAt W (q'.add (k * 5)) x := fun W hu => ⟨AvAt.upd ⟨c0, c1, c2, c3, c4⟩ hu, AvAt.upd ⟨d0, d1, d2, d3, d4⟩ hu⟩
      simp only [AvAt] at hcells
      have HU0 := Lib.hid hu
      clear c0 c1 c2 c3 c4 d0 d1 d2 d3 d4 hu
      go_wp2_with fail
      refine wp_region_facts (.pure) (trivial) [.is (.slice (some q) n cap), .is (.int .i64 k), .is (.pointer (some (q.add (k * 5)))), .is (.agg #[.bool x.must, .bool x.hidden, .int .i64 x.vendor, .int .i64 x.kind, .string x.val]), .is (.slice (some q') n cbp), .is (.int .i64 k), .is (.pointer (some (q'.add (k * 5)))), .is (.agg #[.bool x.must, .bool x.hidden, .int .i64 x.vendor, .int .i64 x.kind, .string x.val]), .is (.bool false)] (by kernel_rfl) (by kernel_rfl) (by kernel_rfl) (by kernel_rfl) ?_ ?_
      · refine Steps.cons ?_ (Steps.cons ?_ (Steps.cons ?_ (Steps.cons ?_ (Steps.cons ?_ (Steps.cons ?_ (Steps.cons ?_ (Steps.cons ?_ (Steps.cons ?_ Steps.nil))))))))
        · refine step_is _ rfl ⟨_, rfl⟩ rfl (fun _ _ => trivial) ?_
          intro a W hi hF hD
          have hu := hi.upd
          have e0 : a.tmps[0]?.getD undef = _ := (ev a 0).symm.trans (hF 0 (by kernel_rfl))
          clear hF hD
          have hc := hcells W hu
          go_simp
        · refine step_is _ rfl ⟨_, rfl⟩ rfl (fun _ _ => trivial) ?_
          intro a W hi hF hD
          have hu := hi.upd
          have e5 : a.tmps[5]?.getD undef = _ := (ev a 5).symm.trans (hF 5 (by kernel_rfl))
          clear hF hD
          have hc := hcells W hu
          go_simp
        · refine step_is _ rfl ⟨_, rfl⟩ rfl (fun _ _ => trivial) ?_
          intro a W hi hF hD
          have hu := hi.upd
          have e17 : a.tmps[17]?.getD undef = .slice (some q) n cap := (ev a 17).symm.trans (hD _ (Array.mem_of_getElem? (i := 0) rfl) rfl).1
          have e18 : a.tmps[18]?.getD undef = .int .i64 k := (ev a 18).symm.trans (hD _ (Array.mem_of_getElem? (i := 1) rfl) rfl).1
          clear hF hD
          have hc := hcells W hu
          go_simp
        · refine step_is _ rfl ⟨_, rfl⟩ rfl (fun _ _ => trivial) ?_
          intro a W hi hF hD
          have hu := hi.upd
          have e19 : a.tmps[19]?.getD undef = .pointer (some (q.add (k * 5))) := (ev a 19).symm.trans (hD _ (Array.mem_of_getElem? (i := 0) rfl) rfl).1
          clear hF hD
          have hc := hcells W hu
          go_simp
        · refine step_is _ rfl ⟨_, rfl⟩ rfl (fun _ _ => trivial) ?_
          intro a W hi hF hD
          have hu := hi.upd
          have e1 : a.tmps[1]?.getD undef = _ := (ev a 1).symm.trans (hF 1 (by kernel_rfl))
          clear hF hD
          have hc := hcells W hu
          go_simp
        · refine step_is _ rfl ⟨_, rfl⟩ rfl (fun _ _ => trivial) ?_
          intro a W hi hF hD
          have hu := hi.upd
          have e5 : a.tmps[5]?.getD undef = _ := (ev a 5).symm.trans (hF 5 (by kernel_rfl))
          clear hF hD
          have hc := hcells W hu
          go_simp
        · refine step_is _ rfl ⟨_, rfl⟩ rfl (fun _ _ => trivial) ?_
          intro a W hi hF hD
          have hu := hi.upd
          have e21 : a.tmps[21]?.getD undef = .slice (some q') n cbp := (ev a 21).symm.trans (hD _ (Array.mem_of_getElem? (i := 0) rfl) rfl).1
          have e22 : a.tmps[22]?.getD undef = .int .i64 k := (ev a 22).symm.trans (hD _ (Array.mem_of_getElem? (i := 1) rfl) rfl).1
          clear hF hD
          have hc := hcells W hu
          go_simp
        · refine step_is _ rfl ⟨_, rfl⟩ rfl (fun _ _ => trivial) ?_
          intro a W hi hF hD
          have hu := hi.upd
          have e23 : a.tmps[23]?.getD undef = .pointer (some (q'.add (k * 5))) := (ev a 23).symm.trans (hD _ (Array.mem_of_getElem? (i := 0) rfl) rfl).1
          clear hF hD
          have hc := hcells W hu
          go_simp
        · refine step_is _ rfl ⟨_, rfl⟩ rfl (fun _ _ => trivial) ?_
          intro a W hi hF hD
          have hu := hi.upd
          have e20 : a.tmps[20]?.getD undef = .agg #[.bool x.must, .bool x.hidden, .int .i64 x.vendor, .int .i64 x.kind, .string x.val] := (ev a 20).symm.trans (hD _ (Array.mem_of_getElem? (i := 0) rfl) rfl).1
          have e24 : a.tmps[24]?.getD undef = .agg #[.bool x.must, .bool x.hidden, .int .i64 x.vendor, .int .i64 x.kind, .string x.val] := (ev a 24).symm.trans (hD _ (Array.mem_of_getElem? (i := 1) rfl) rfl).1
          clear hF hD
          have hc := hcells W hu
          go_simp
          done
      intro vals W hu hv
      have v0 : vals 0 = .slice (some q) n cap := (hv 0 (by decide)).1
      have v1 : vals 1 = .int .i64 k := (hv 1 (by decide)).1
      have v2 : vals 2 = .pointer (some (q.add (k * 5))) := (hv 2 (by decide)).1
      have v3 : vals 3 = .agg #[.bool x.must, .bool x.hidden, .int .i64 x.vendor, .int .i64 x.kind, .string x.val] := (hv 3 (by decide)).1
      have v4 : vals 4 = .slice (some q') n cbp := (hv 4 (by decide)).1
      have v5 : vals 5 = .int .i64 k := (hv 5 (by decide)).1
      have v6 : vals 6 = .pointer (some (q'.add (k * 5))) := (hv 6 (by decide)).1
      have v7 : vals 7 = .agg #[.bool x.must, .bool x.hidden, .int .i64 x.vendor, .int .i64 x.kind, .string x.val] := (hv 7 (by decide)).1
      have v8 : vals 8 = .bool false := (hv 8 (by decide)).1
      clear hv
      simp only [putAll, Act.put, Nat.zero_add, Nat.reduceAdd, v0, v1, v2, v3, v4, v5, v6, v7, v8, List.setIfInBounds_toArray, List.set_cons_zero, List.set_cons_succ]
      clear v0 v1 v2 v3 v4 v5 v6 v7 v8
      have HU := Lib.hid (HU0.out.trans hu)
      clear hu hcells
      go_wp2_with fail
      go_roundg (n - (k + 1))
      case rel => exact ⟨k + 1, by omega, by go_num, HU.out⟩
      case measure => omega
    · obtain rfl : k = n := by omega
      go_wp2
      go_ret
      exact ⟨rfl, hu⟩
set_option maxHeartbeats 2000000 in
theorem sameCtl_eq (c : Cm) (v u : Value) (w : World) (hl : AvsAt w v c.l) (hm : AvsAt w u c.l) :
    Calls Try.prog 19 #[c.val v, c.val u] w fun e w' => e = .returned (.bool true) ∧ Upd [] w w' := by
  obtain ⟨t, s, ns, nr, l⟩ := c
  dsimp only at hl hm
  simp only [Cm.val]
  obtain ⟨ao, cap, rfl, -⟩ := id hl
  obtain ⟨bo, cbp, rfl, -⟩ := id hm
  obtain ⟨n, hn⟩ : ∃ n, l.length = n := ⟨_, rfl⟩
  rw [hn] at hl hm ⊢
  clear hn
  have HL := Lib.hid hl
  have HM := Lib.hid hm
  clear hl hm
  go_enter Try.func19, Try.ntmps19
  go_wp2_with fail
  refine (sameRef_eq l _ _ _ (HL.out.upd (((Upd.refl _ _).alloc _).alloc _)) (HM.out.upd (((Upd.refl _ _).alloc _).alloc _))).mono ?_
  rintro e w1 ⟨rfl, hu1⟩
  go_wp2_with fail
  go_ret
  exact ⟨rfl, (((Upd.refl _ _).alloc _).alloc _).trans hu1⟩
end Go.Proofs.Ytcplhlokbnaabaa
