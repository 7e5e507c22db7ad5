/- The walks of a call's say, end, Open, Close, tell. -/
import Derived.Test.YtihedbaomingpaaCallB
import Derived.Deep.DeepCutAuto
namespace Go.Proofs.Ytihedbaomingpaa
open Go.RowKit
set_option linter.unusedSimpArgs false
set_option linter.unusedVariables false
set_option maxRecDepth 20000

/-- What is said is put together: stage by stage. -/
def sayA (w0 : World) (g : Nat) (pr : Int) (m : List Av) (vs : List Value) (w : World) : Prop := match vs with
  | [] => Upd [] w0 w
  | [u] => Upd [] w0 w ∧ ∃ own, Own w 42 5 u m.length (avCells m) own
  | [_, a] => Upd [] w0 w ∧ ∃ u own, a = .agg #[.int .i64 pr, u] ∧ (∃ ao cap, u = .slice ao m.length cap) ∧ Own w 42 5 u m.length (avCells m) own
  | [_, _, _] => ∃ u own, Own w 42 5 u m.length (avCells m) own ∧ Blk w g 38 #[.int .i64 pr, u] ∧ Upd [g] w0 w
  | _ => False
theorem sayA_upd {w0 w : World} {g : Nat} {pr : Int} {m : List Av} {vs : List Value} (h : sayA w0 g pr m vs w) (hv : vs.length ≤ 1) : Upd [] w0 w := by
  match vs, hv with
  | [], _ => exact h
  | [u], _ => exact h.1

set_option maxHeartbeats 2000000 in
theorem say_any (b : Nat) (k : K) (kind : Int) (l : List Av) (v : Value) (w : World) (h : CallAt w b k) (hl : AvsAt w v l) (hs : l.length < 1000000) :
    Calls Try.prog 28 #[.pointer (some ⟨b, 0, none⟩), .int .i64 kind, v] w fun e w' =>
      ∃ u own, e = .returned (.agg #[.int .i64 k.peer, u]) ∧ Own w' 42 5 u (numAv 0 kind 2 :: l).length (avCells (numAv 0 kind 2 :: l)) own ∧ Upd [] w w' := by
  obtain ⟨vw, vg, ow, og, hb, -, -⟩ := h
  have HB := Lib.hid hb
  have HS := Lib.hid hs
  obtain ⟨ao, cap, rfl, -⟩ := id hl
  obtain ⟨n, hn⟩ : ∃ n, n = l.length := ⟨_, rfl⟩
  rw [← hn] at hl
  rw [← hn]
  have HL := Lib.hid hl
  clear hb hs hl hn
  go_enter Try.func28, Try.ntmps28
  go_wp2_with fail
  refine wp_region_chain [some (.pointer (some ⟨b, 0, none⟩)), some (.pointer (some ⟨b, 0, none⟩)), some (.pointer (some ⟨b, 2, none⟩)), some (.int .i64 k.peer), some (.int .i64 kind), some (.slice ao n cap), none, none, none] [6,7,8] (sayA (w.alloc (.cells #[.int .i64 0, .slice none 0 0] 38)) w.heap.size k.peer (numAv 0 kind 2 :: l)) [(0, 1), (0, 1), (0, 1), (0, 1), (0, 0), (0, 0), (0, 0), (1, 1), (2, 2)] (by kernel_rfl) (by kernel_rfl) (by kernel_rfl) (by kernel_rfl) (by kernel_rfl) (by kernel_rfl) (((Upd.refl [] _).drew)) ?_ ?_
  · refine StepsC.cons ?_ (StepsC.cons ?_ (StepsC.cons ?_ (StepsC.cons ?_ (StepsC.cons ?_ (StepsC.cons ?_ (StepsC.cons ?_ (StepsC.cons ?_ (StepsC.cons ?_ StepsC.nil))))))))
    · refine chain_is _ (.inl rfl) ⟨_, rfl⟩ (by kernel_rfl) rfl ?_
      intro a W kst l0 h0 A0 hF hD
      have e0 : a.tmps[0]?.getD undef = _ := (ev a 0).symm.trans (hF 0 (by kernel_rfl))
      clear hF hD
      go_simp
    · refine chain_is _ (.inl rfl) ⟨_, rfl⟩ (by kernel_rfl) rfl ?_
      intro a W kst l0 h0 A0 hF hD
      have e7 : a.tmps[7]?.getD undef = .pointer (some ⟨b, 0, none⟩) := (ev a 7).symm.trans (hD _ (Array.mem_of_getElem? (i := 0) rfl) rfl)
      clear hF hD
      go_simp
    · refine chain_is _ (.inl rfl) ⟨_, rfl⟩ (by kernel_rfl) rfl ?_
      intro a W kst l0 h0 A0 hF hD
      have e8 : a.tmps[8]?.getD undef = .pointer (some ⟨b, 0, none⟩) := (ev a 8).symm.trans (hD _ (Array.mem_of_getElem? (i := 0) rfl) rfl)
      clear hF hD
      go_simp
    · refine chain_is _ (.inl rfl) ⟨_, rfl⟩ (by kernel_rfl) rfl ?_
      intro a W kst l0 h0 A0 hF hD
      have e9 : a.tmps[9]?.getD undef = .pointer (some ⟨b, 2, none⟩) := (ev a 9).symm.trans (hD _ (Array.mem_of_getElem? (i := 0) rfl) rfl)
      clear hF hD
      have hu := sayA_upd A0 (by simp only [List.length_map, List.length_take]; omega)
      have g2 := ((HB.out.alloc (.cells #[.int .i64 0, .slice none 0 0] 38)).upd hu (by simp)).cell 2
      simp [K.cells] at g2
      go_simp
    · refine chain_is _ (.inl rfl) ⟨_, rfl⟩ (by kernel_rfl) rfl ?_
      intro a W kst l0 h0 A0 hF hD
      have k0 : kst = 0 := Nat.le_antisymm h0 l0
      subst k0
      clear l0 h0
      have e1 : a.tmps[1]?.getD undef = _ := (ev a 1).symm.trans (hF 1 (by kernel_rfl))
      clear hF hD
      go_simp
    · refine chain_is _ (.inl rfl) ⟨_, rfl⟩ (by kernel_rfl) rfl ?_
      intro a W kst l0 h0 A0 hF hD
      have k0 : kst = 0 := Nat.le_antisymm h0 l0
      subst k0
      clear l0 h0
      have e2 : a.tmps[2]?.getD undef = _ := (ev a 2).symm.trans (hF 2 (by kernel_rfl))
      clear hF hD
      go_simp
    · refine chain_call (.inl rfl) ⟨_, rfl⟩ (by kernel_rfl) ?_
      intro a W kst l0 h0 A0 hF hD
      have k0 : kst = 0 := Nat.le_antisymm h0 l0
      subst k0
      clear l0 h0
      have e11 : a.tmps[11]?.getD undef = .int .i64 kind := (ev a 11).symm.trans (hD _ (Array.mem_of_getElem? (i := 0) rfl) rfl)
      have e12 : a.tmps[12]?.getD undef = .slice ao n cap := (ev a 12).symm.trans (hD _ (Array.mem_of_getElem? (i := 1) rfl) rfl)
      clear hF hD
      have hu : Upd [] _ W := A0
      refine ⟨_, _, by (go_simp; first | done | rfl | exact ⟨rfl, rfl⟩), ?_⟩
      refine (make_any kind l _ _ (HL.out.upd (((Upd.refl [] w).alloc _).trans hu)) HS.out).mono ?_
      rintro e w3 ⟨u1, own1, rfl, ho1, -, hu2⟩
      exact ⟨_, rfl, trivial, hu.trans hu2, own1, by rw [List.length_cons, Nat.add_comm]; exact ho1⟩
    · refine chain_run (.inl rfl) ⟨_, rfl⟩ (by kernel_rfl) ?_
      intro a W kst l0 h0 A0 hF hD
      have k0 : kst = 1 := Nat.le_antisymm h0 l0
      subst k0
      clear l0 h0
      have e10 : a.tmps[10]?.getD undef = .int .i64 k.peer := (ev a 10).symm.trans (hD _ (Array.mem_of_getElem? (i := 0) rfl) rfl)
      clear hF hD
      obtain ⟨hu, own1, ho⟩ := A0
      obtain ⟨ao1, cap1, hv, -, -⟩ := ho.shape
      obtain ⟨n1, hn1⟩ : ∃ x, x = (numAv 0 kind 2 :: l).length := ⟨_, rfl⟩
      rw [← hn1] at hv
      have e13 : a.tmps[13]?.getD undef = _ := (ev a 13).symm.trans hv
      rw [hv] at ho
      have HN1 := Lib.hid hn1
      clear hn1
      refine ⟨.agg #[.int .i64 k.peer, .slice ao1 n1 cap1], W, by go_simp, trivial, hu, _, own1, rfl, ⟨ao1, cap1, by rw [HN1.out]⟩, ho⟩
    · refine chain_set (.inl rfl) rfl (by kernel_rfl) trivial ?_
      intro a W kst l0 h0 A0 hF hD
      have k0 : kst = 2 := Nat.le_antisymm h0 l0
      subst k0
      clear l0 h0
      have e6 : a.tmps[6]?.getD undef = _ := (ev a 6).symm.trans (hF 6 (by kernel_rfl))
      clear hF hD
      obtain ⟨hu, u, own1, hg, ⟨ao1, cap1, hv⟩, ho⟩ := A0
      obtain ⟨n1, hn1⟩ : ∃ x, x = (numAv 0 kind 2 :: l).length := ⟨_, rfl⟩
      rw [← hn1] at hv
      have HN1 := Lib.hid hn1
      clear hn1
      subst hv
      have e14 : a.tmps[14]?.getD undef = _ := (ev a 14).symm.trans hg
      have b0 := (Blk.new w 38 #[.int .i64 0, .slice none 0 0]).upd hu (by simp)
      have c0 := b0.cell 0
      have c1 := b0.cell 1
      have f0 := b0.frozen 0
      have f1 := b0.frozen 1
      simp only [List.size_toArray, List.length_cons, List.length_nil, List.getElem?_toArray, List.getElem?_cons_zero, List.getElem?_cons_succ] at c0 c1
      have hb := (b0.set_ 0 (.int .i64 k.peer)).set_ 1 (.slice ao1 n1 cap1)
      have hne : w.heap.size ∉ own1 := ho.ne_blk b0 (by decide)
      refine ⟨_, by (go_simp; first | done | rfl | exact ⟨rfl, rfl⟩), .slice ao1 n1 cap1, own1, (ho.setCell _ hne).setCell _ hne, hb, ((Upd.mono (F := []) hu (by simp)).setCell _ (.inl (by simp))).setCell _ (.inl (by simp))⟩
  intro vals W hv hA
  have v0 : vals 0 = .pointer (some ⟨b, 0, none⟩) := hv 0 (by decide)
  have v1 : vals 1 = .pointer (some ⟨b, 0, none⟩) := hv 1 (by decide)
  have v2 : vals 2 = .pointer (some ⟨b, 2, none⟩) := hv 2 (by decide)
  have v3 : vals 3 = .int .i64 k.peer := hv 3 (by decide)
  have v4 : vals 4 = .int .i64 kind := hv 4 (by decide)
  have v5 : vals 5 = .slice ao n cap := hv 5 (by decide)
  clear hv
  obtain ⟨u, own1, ho, hb1, hu⟩ := hA
  simp only [putAll, Act.put, Nat.zero_add, Nat.reduceAdd, v0, v1, v2, v3, v4, v5, List.setIfInBounds_toArray, List.set_cons_zero, List.set_cons_succ]
  clear v0 v1 v2 v3 v4 v5
  have HO := Lib.hid ho
  have HU : Hid (Upd [] w W) := ((Upd.refl [] w).alloc _).trans' hu (fun x hx => .inr (by simp at hx; omega))
  have q0 := hb1.cell 0
  have q1 := hb1.cell 1
  simp at q0 q1
  clear ho hu hb1
  go_wp2_with fail
  exact bodyPost_ret (v := .agg #[.int .i64 k.peer, u]) (by simp [results, Try.results28, go_sem, q0, q1]) rfl ⟨u, own1, rfl, HO.out, HU.out⟩
end Go.Proofs.Ytihedbaomingpaa
