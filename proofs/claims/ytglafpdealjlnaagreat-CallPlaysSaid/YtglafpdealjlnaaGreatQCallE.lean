/- The walks of a call's connection, Close, tell, New and readers. -/
import Derived.Test.YtglafpdealjlnaaGreatQCallD
namespace Go.Proofs.YtglafpdealjlnaaGreat
open Go.RowKit
set_option linter.unusedSimpArgs false
set_option linter.unusedVariables false
set_option maxRecDepth 100000

def connA (w0 : World) (g : Nat) (k : K) (xa xb : ByteArray) (vs : List Value) (w : World) : Prop := match vs with
  | [] => Upd [] w0 w ∧ True
  | [a] => Upd [] w0 w ∧ a = .int .i64 (kindFor k.out 3)
  | [a, o] => Upd [] w0 w ∧ a = .int .i64 (kindFor k.out 3) ∧ o = .agg #[.bool true, .bool false, .int .i64 0, .int .i64 24, .string xa]
  | [a, o, m] => Upd [] w0 w ∧ a = .int .i64 (kindFor k.out 3) ∧ o = .agg #[.bool true, .bool false, .int .i64 0, .int .i64 24, .string xa] ∧ m = .agg #[.bool true, .bool false, .int .i64 0, .int .i64 19, .string xb]
  | [a, _, _, s] => Upd [] w0 w ∧ a = .int .i64 (kindFor k.out 3) ∧ ∃ own, Own w 85 5 s 2 (avCells [⟨true, false, 0, 24, xa⟩, ⟨true, false, 0, 19, xb⟩]) own ∧ ∀ x ∈ own, w0.heap.size ≤ x
  | [a, _, _, _, t] => Upd [] w0 w ∧ a = .int .i64 (kindFor k.out 3) ∧ (∃ ao n cap, t = .slice ao n cap) ∧ AvsAt w t ([⟨true, false, 0, 24, xa⟩, ⟨true, false, 0, 19, xb⟩] ++ k.with_)
  | [_, _, _, _, _, y] => Upd [] w0 w ∧ ∃ u own, (∀ x ∈ own, w0.heap.size ≤ x) ∧ y = .agg #[.int .i64 k.peer, u] ∧ (∃ ao n cap, u = .slice ao n cap) ∧ Own w 85 5 u (numAv 0 (kindFor k.out 3) 2 :: ([⟨true, false, 0, 24, xa⟩, ⟨true, false, 0, 19, xb⟩] ++ k.with_)).length (avCells (numAv 0 (kindFor k.out 3) 2 :: ([⟨true, false, 0, 24, xa⟩, ⟨true, false, 0, 19, xb⟩] ++ k.with_))) own
  | [_, _, _, _, _, _, _] => ∃ u own, (∀ x ∈ own, w0.heap.size ≤ x) ∧ Own w 85 5 u (numAv 0 (kindFor k.out 3) 2 :: ([⟨true, false, 0, 24, xa⟩, ⟨true, false, 0, 19, xb⟩] ++ k.with_)).length (avCells (numAv 0 (kindFor k.out 3) 2 :: ([⟨true, false, 0, 24, xa⟩, ⟨true, false, 0, 19, xb⟩] ++ k.with_))) own ∧ Blk w g 191 #[.int .i64 k.peer, u] ∧ Upd [g] w0 w
  | _ => False
theorem connA_upd {w0 w : World} {g : Nat} {k : K} {xa xb : ByteArray} {vs : List Value} (h : connA w0 g k xa xb vs w) (hv : vs.length ≤ 4) : Upd [] w0 w := by
  match vs, hv with
  | [], _ => exact h.1
  | [_], _ => exact h.1
  | [_, _], _ => exact h.1
  | [_, _, _], _ => exact h.1
  | [_, _, _, _], _ => exact h.1
structure ConnEnd (w : World) (k : K) (e : Ending) (w' : World) : Prop where
  ex : ∃ u own, e = .returned (.agg #[.int .i64 k.peer, u]) ∧ Own w' 85 5 u k.conn.2.length (avCells k.conn.2) own ∧ Upd [] w w' ∧ ∀ x ∈ own, w.heap.size ≤ x
set_option maxHeartbeats 2000000 in
theorem conn_any (b : Nat) (k : K) (w : World) (h : CallAt w b k) (hs : k.with_.length ≤ 1000) : Calls Tryz.prog 313 #[.pointer (some ⟨b, 0, none⟩)] w (ConnEnd w k) := by
  obtain ⟨xa, hxa⟩ : ∃ x, be 4 10000000 = x := ⟨_, rfl⟩
  have hn1 := fun W => num_ok 24 10000000 4 (by omega) W
  simp only [Av.agg, numAv, hxa] at hn1
  have HN1 := Lib.hid hn1
  have HE1 : Hid (numAv 24 10000000 4 = ⟨true, false, 0, 24, xa⟩) := by rw [← hxa]; rfl
  clear hxa hn1
  obtain ⟨xb, hxb⟩ : ∃ x, be 4 1 = x := ⟨_, rfl⟩
  have hn2 := fun W => num_ok 19 1 4 (by omega) W
  simp only [Av.agg, numAv, hxb] at hn2
  have HN2 := Lib.hid hn2
  have HE2 : Hid (numAv 19 1 4 = ⟨true, false, 0, 19, xb⟩) := by rw [← hxb]; rfl
  clear hxb hn2
  obtain ⟨i0, hi0, hz0, hz1, hz2⟩ := info_parts info_avp
  have HC := Lib.hid h
  obtain ⟨vw, vg, ow, og, hb, how, -⟩ := h
  obtain ⟨aw, cw, rfl, -, hcw⟩ := how.shape
  obtain ⟨nw, hnw⟩ : ∃ n, n = k.with_.length := ⟨_, rfl⟩
  have HR := Lib.hid (AvsAt.of_own how).rd
  rw [← hnw] at HR hb hs
  have HNW := Lib.hid hnw
  have HB := Lib.hid hb
  clear hb how hnw
  clear hcw
  go_enter Tryz.func313, Tryz.ntmps313
  go_wp2_with fail
  refine wp_region_chain [some (.pointer (some ⟨b, 0, none⟩)), some (.pointer (some ⟨b, 0, none⟩)), none, none, none, none, some (.pointer (some ⟨b, 0, none⟩)), some (.pointer (some ⟨b, 0, none⟩)), some (.pointer (some ⟨b, 6, none⟩)), some (.slice aw nw cw), none, none, none] [2,3,4,5,10,11,12] (connA (w.alloc (.cells #[.int .i64 0, .slice none 0 0] 191)) w.heap.size k xa xb) [(0, 5), (0, 0), (0, 0), (1, 1), (2, 2), (3, 3), (0, 4), (0, 4), (0, 4), (0, 4), (4, 4), (5, 5), (6, 6)] (by kernel_rfl) (by kernel_rfl) (by kernel_rfl) (by kernel_rfl) (by kernel_rfl) (by kernel_rfl) (⟨(Upd.refl [] _).drew, trivial⟩) ?_ ?_
  · refine StepsC.cons ?_ (StepsC.cons ?_ (StepsC.cons ?_ (StepsC.cons ?_ (StepsC.cons ?_ (StepsC.cons ?_ (StepsC.cons ?_ (StepsC.cons ?_ (StepsC.cons ?_ (StepsC.cons ?_ (StepsC.cons ?_ (StepsC.cons ?_ (StepsC.cons ?_ StepsC.nil))))))))))))
    · refine chain_is _ (.inl rfl) ⟨_, rfl⟩ (by kernel_rfl) rfl ?_
      intro a W kst l0 h0 A0 hF hD
      have e0 : a.tmps[0]?.getD undef = _ := (ev a 0).symm.trans (hF 0 (by kernel_rfl))
      clear hF hD
      go_simp
    · refine chain_is _ (.inl rfl) ⟨_, rfl⟩ (by kernel_rfl) rfl ?_
      intro a W kst l0 h0 A0 hF hD
      have k0 : kst = 0 := Nat.le_antisymm h0 l0
      subst k0
      clear l0 h0
      have e0 : a.tmps[0]?.getD undef = _ := (ev a 0).symm.trans (hF 0 (by kernel_rfl))
      clear hF hD
      go_simp
    · refine chain_call (.inl rfl) ⟨_, rfl⟩ (by kernel_rfl) ?_
      intro a W kst l0 h0 A0 hF hD
      have k0 : kst = 0 := Nat.le_antisymm h0 l0
      subst k0
      clear l0 h0
      have e4 : a.tmps[4]?.getD undef = .pointer (some ⟨b, 0, none⟩) := (ev a 4).symm.trans (hD _ (Array.mem_of_getElem? (i := 0) rfl) rfl)
      clear hF hD
      have hu := A0.1
      refine ⟨_, _, by (go_simp; first | done | rfl | exact ⟨rfl, rfl⟩), ?_⟩
      refine (kind_for b _ 3 _ (HC.out.upd (((Upd.refl [] w).alloc _).trans hu))).mono ?_
      rintro e w3 ⟨rfl, hu2⟩
      exact ⟨_, rfl, trivial, hu.trans hu2, rfl⟩
    · refine chain_call (.inl rfl) ⟨_, rfl⟩ (by kernel_rfl) ?_
      intro a W kst l0 h0 A0 hF hD
      have k0 : kst = 1 := Nat.le_antisymm h0 l0
      subst k0
      clear l0 h0
      clear hF hD
      obtain ⟨hu, h1⟩ := A0
      refine ⟨_, _, by (go_simp; first | done | rfl | exact ⟨rfl, rfl⟩), ?_⟩
      refine (HN1.out _).mono ?_
      rintro e w3 ⟨rfl, hu2⟩
      exact ⟨_, rfl, trivial, hu.trans hu2, h1, rfl⟩
    · refine chain_call (.inl rfl) ⟨_, rfl⟩ (by kernel_rfl) ?_
      intro a W kst l0 h0 A0 hF hD
      have k0 : kst = 2 := Nat.le_antisymm h0 l0
      subst k0
      clear l0 h0
      clear hF hD
      obtain ⟨hu, h1, h2⟩ := A0
      refine ⟨_, _, by (go_simp; first | done | rfl | exact ⟨rfl, rfl⟩), ?_⟩
      refine (HN2.out _).mono ?_
      rintro e w3 ⟨rfl, hu2⟩
      exact ⟨_, rfl, trivial, hu.trans hu2, h1, h2, rfl⟩
    · refine chain_run (.inl rfl) ⟨_, rfl⟩ (by kernel_rfl) ?_
      intro a W kst l0 h0 A0 hF hD
      have k0 : kst = 3 := Nat.le_antisymm h0 l0
      subst k0
      clear l0 h0
      clear hF hD
      obtain ⟨hu, h1, h2, h3⟩ := A0
      have e6 : a.tmps[6]?.getD undef = _ := (ev a 6).symm.trans h2
      have e7 : a.tmps[7]?.getD undef = _ := (ev a 7).symm.trans h3
      refine ⟨.slice (some ⟨W.heap.size, 0, none⟩) 2 2, W.alloc (.cells #[.bool true, .bool false, .int .i64 0, .int .i64 24, .string xa, .bool true, .bool false, .int .i64 0, .int .i64 19, .string xb] 85), by go_simp, trivial, hu.alloc _, h1, [W.heap.size], ?_, fun x hx => by simp at hx; have := hu.size; omega⟩
      exact ⟨by simp [avCells, Av.cells], .inr ⟨W.heap.size, 0, 2, _, rfl, rfl, Blk.new _ _ _, Nat.le_refl _, by simp [maxLen], by simp, rfl⟩⟩
    · refine chain_is _ (.inl rfl) ⟨_, rfl⟩ (by kernel_rfl) rfl ?_
      intro a W kst l0 h0 A0 hF hD
      have e0 : a.tmps[0]?.getD undef = _ := (ev a 0).symm.trans (hF 0 (by kernel_rfl))
      clear hF hD
      go_simp
    · refine chain_is _ (.inl rfl) ⟨_, rfl⟩ (by kernel_rfl) rfl ?_
      intro a W kst l0 h0 A0 hF hD
      have e9 : a.tmps[9]?.getD undef = .pointer (some ⟨b, 0, none⟩) := (ev a 9).symm.trans (hD _ (Array.mem_of_getElem? (i := 0) rfl) rfl)
      clear hF hD
      go_simp
    · refine chain_is _ (.inl rfl) ⟨_, rfl⟩ (by kernel_rfl) rfl ?_
      intro a W kst l0 h0 A0 hF hD
      have e10 : a.tmps[10]?.getD undef = .pointer (some ⟨b, 0, none⟩) := (ev a 10).symm.trans (hD _ (Array.mem_of_getElem? (i := 0) rfl) rfl)
      clear hF hD
      go_simp
    · refine chain_is _ (.inl rfl) ⟨_, rfl⟩ (by kernel_rfl) rfl ?_
      intro a W kst l0 h0 A0 hF hD
      have e11 : a.tmps[11]?.getD undef = .pointer (some ⟨b, 6, none⟩) := (ev a 11).symm.trans (hD _ (Array.mem_of_getElem? (i := 0) rfl) rfl)
      clear hF hD
      have hu := connA_upd A0 (by simp only [List.length_map, List.length_take]; omega)
      have g6 := ((HB.out.alloc (.cells #[.int .i64 0, .slice none 0 0] 191)).upd hu (by simp)).cell 6
      simp [K.cells] at g6
      go_simp
    · refine chain_run (.inl rfl) ⟨_, rfl⟩ (by kernel_rfl) ?_
      intro a W kst l0 h0 A0 hF hD
      have k0 : kst = 4 := Nat.le_antisymm h0 l0
      subst k0
      clear l0 h0
      have e12 : a.tmps[12]?.getD undef = .slice aw nw cw := (ev a 12).symm.trans (hD _ (Array.mem_of_getElem? (i := 1) rfl) rfl)
      clear hF hD
      obtain ⟨hu, h1, own0, ho, hf⟩ := A0
      have HR0 := (HR.out.upd (((Upd.refl [] w).alloc (.cells #[.int .i64 0, .slice none 0 0] 191)).trans hu))
      obtain ⟨ao1, cap1, w5, own1, hrun, ho1, hin1, hu5⟩ := run_append_Rd (P := Tryz.prog) W 22 22 85 i0 _ 5 40 Tryz.underlying22 hi0 hz0 hz1 hz2 rfl (by decide) _ 2 _ _ ho _ nw _ HR0 (by simp only [maxLen]; omega) (by omega)
      refine ⟨_, w5, exec_append rfl rfl ((ev a 12).trans e12) hrun, trivial, hu.trans' hu5 (fun x hx => .inr (hf x hx)), h1, ⟨ao1, _, cap1, rfl⟩, AvsAt.of_own (e := 85) (own := own1) ?_⟩
      have hl : 2 + nw = ([⟨true, false, 0, 24, xa⟩, ⟨true, false, 0, 19, xb⟩] ++ k.with_ : List Av).length := by rw [List.length_append, ← HNW.out]; rfl
      rw [← hl, avCells_append]
      exact ho1
    · refine chain_call (.inl rfl) ⟨_, rfl⟩ (by kernel_rfl) ?_
      intro a W kst l0 h0 A0 hF hD
      have k0 : kst = 5 := Nat.le_antisymm h0 l0
      subst k0
      clear l0 h0
      have e3 : a.tmps[3]?.getD undef = .pointer (some ⟨b, 0, none⟩) := (ev a 3).symm.trans (hD _ (Array.mem_of_getElem? (i := 0) rfl) rfl)
      clear hF hD
      obtain ⟨hu, h1, ⟨ao1, n1, cap1, hv⟩, h2⟩ := A0
      have e5 : a.tmps[5]?.getD undef = _ := (ev a 5).symm.trans h1
      have e13 : a.tmps[13]?.getD undef = _ := (ev a 13).symm.trans hv
      rw [hv] at h2
      refine ⟨_, _, by (go_simp; first | done | rfl | exact ⟨rfl, rfl⟩), ?_⟩
      refine (say_any b _ _ _ _ _ (HC.out.upd (((Upd.refl [] w).alloc _).trans hu)) h2 (by have := HNW.out; rw [List.length_append]; simp only [List.length_cons, List.length_nil]; omega)).mono ?_
      rintro e w3 ⟨u, ou, rfl, ho, hu3, hf3⟩
      obtain ⟨ao2, cap2, hv2, -, -⟩ := ho.shape
      exact ⟨_, rfl, trivial, hu.trans hu3, u, ou, fun x hx => Nat.le_trans hu.size (hf3 x hx), rfl, ⟨ao2, _, cap2, hv2⟩, ho⟩
    · refine chain_set (.inl rfl) rfl (by kernel_rfl) trivial ?_
      intro a W kst l0 h0 A0 hF hD
      have k0 : kst = 6 := Nat.le_antisymm h0 l0
      subst k0
      clear l0 h0
      have e2 : a.tmps[2]?.getD undef = _ := (ev a 2).symm.trans (hF 2 (by kernel_rfl))
      clear hF hD
      obtain ⟨hu, u, own1, hf, hg, ⟨ao1, n1, cap1, hv⟩, ho⟩ := A0
      obtain ⟨n2, hn2⟩ : ∃ x, x = n1 := ⟨_, rfl⟩
      rw [← hn2] at hv
      clear hn2
      have HOO := Lib.hid ho
      clear ho
      subst hv
      have e14 : a.tmps[14]?.getD undef = _ := (ev a 14).symm.trans hg
      have b0 := (Blk.new w 191 #[.int .i64 0, .slice none 0 0]).upd hu (by simp)
      have c0 := b0.cell 0
      have c1 := b0.cell 1
      have f0 := b0.frozen 0
      have f1 := b0.frozen 1
      simp only [List.size_toArray, List.length_cons, List.length_nil, List.getElem?_toArray, List.getElem?_cons_zero, List.getElem?_cons_succ] at c0 c1
      have hb := (b0.set_ 0 (.int .i64 k.peer)).set_ 1 (.slice ao1 n2 cap1)
      have hne : w.heap.size ∉ own1 := HOO.out.ne_blk b0 (by decide)
      refine ⟨_, by (go_simp; first | done | rfl | exact ⟨rfl, rfl⟩), .slice ao1 n2 cap1, own1, hf, (HOO.out.setCell _ hne).setCell _ hne, hb, ((Upd.mono (F := []) hu (by simp)).setCell _ (.inl (by simp))).setCell _ (.inl (by simp))⟩
  intro vals W hv hA
  have v0 : vals 0 = .pointer (some ⟨b, 0, none⟩) := hv 0 (by decide)
  have v1 : vals 1 = .pointer (some ⟨b, 0, none⟩) := hv 1 (by decide)
  have v6 : vals 6 = .pointer (some ⟨b, 0, none⟩) := hv 6 (by decide)
  have v7 : vals 7 = .pointer (some ⟨b, 0, none⟩) := hv 7 (by decide)
  have v8 : vals 8 = .pointer (some ⟨b, 6, none⟩) := hv 8 (by decide)
  have v9 : vals 9 = .slice aw nw cw := hv 9 (by decide)
  clear hv
  obtain ⟨u, own1, hf, ho, hb1, hu⟩ := hA
  simp only [putAll, Act.put, Nat.zero_add, Nat.reduceAdd, v0, v1, v6, v7, v8, v9, List.setIfInBounds_toArray, List.set_cons_zero, List.set_cons_succ]
  clear v0 v1 v6 v7 v8 v9
  have HO := Lib.hid ho
  have HF : Hid (∀ x ∈ own1, w.heap.size ≤ x) := fun x hx => Nat.le_trans ((Upd.refl [] w).alloc (.cells #[.int .i64 0, .slice none 0 0] 191)).size (hf x hx)
  have HU : Hid (Upd [] w W) := ((Upd.refl [] w).alloc _).trans' hu (fun x hx => .inr (by simp at hx; omega))
  have q0 := hb1.cell 0
  have q1 := hb1.cell 1
  simp at q0 q1
  clear ho hu hb1 hf
  go_wp2_with fail
  refine bodyPost_ret (v := .agg #[.int .i64 k.peer, u]) (by simp [results, Tryz.results313, go_sem, q0, q1]) rfl ⟨⟨u, own1, rfl, ?_, HU.out, HF.out⟩⟩
  have e : k.conn.2 = numAv 0 (kindFor k.out 3) 2 :: ([⟨true, false, 0, 24, xa⟩, ⟨true, false, 0, 19, xb⟩] ++ k.with_) := by rw [← HE1.out, ← HE2.out]; rfl
  rw [e]
  exact HO.out

set_option maxHeartbeats 1000000 in
theorem close_any (b : Nat) (k : K) (code : Int) (w : World) (h : CallAt w b k) (hm : k.made = true) : Calls Tryz.prog 41 #[.pointer (some ⟨b, 0, none⟩), .int .i64 code] w (SaidEnd w b (k.close code)) := by
  have HC := Lib.hid h
  obtain ⟨vw, vg, hb⟩ := h.cells_
  have g5 := hb.cell 5
  have f5 := hb.frozen 5
  have hlt := hb.lt
  simp [K.cells] at g5
  clear hb
  by_cases t4 : k.state = 4
  · have HG : Hid (k.close code = (k, [])) := by show _ = _; unfold K.close; rw [if_pos t4]
    rw [t4] at g5
    clear t4 h
    go_enter Tryz.func41, Tryz.ntmps41
    go_wp2_with fail
    refine (none_any b k _ HC.out).mono ?_
    rintro e w1 ⟨rfl, rfl⟩
    rw [hm]
    go_wp2_with fail
    go_ret
    rw [HG.out]
    exact ⟨⟨_, [], rfl, SaysN.nil _ _, HC.out, Upd.refl _ _⟩⟩
  by_cases t0 : k.state = 0
  · have HG : Hid (k.close code = ({ k with state := 4 }, [])) := by show _ = _; unfold K.close; rw [if_neg t4, if_pos t0]
    have HK : Hid (CallAt (w.setCell ⟨b, 5, none⟩ (.int .i64 4)) b { k with state := 4 }) := h.set 5 _ (fun _ _ => rfl) rfl rfl
    rw [t0] at g5
    clear t4 t0 h
    go_enter Tryz.func41, Tryz.ntmps41
    go_wp2_with fail
    refine (none_any b k _ HC.out).mono ?_
    rintro e w1 ⟨rfl, rfl⟩
    rw [hm]
    go_wp2_with fail
    go_ret
    rw [HG.out]
    exact ⟨⟨_, [], rfl, SaysN.nil _ _, HK.out, (Upd.refl [b] _).setCell _ (.inl (by simp))⟩⟩
  · have HG : Hid (k.close code = k.fin code) := by show _ = _; unfold K.close; rw [if_neg t4, if_neg t0]
    have tb4 : (k.state == 4) = false := by simpa using t4
    have tb0 : (k.state == 0) = false := by simpa using t0
    clear t4 t0 h
    go_enter Tryz.func41, Tryz.ntmps41
    go_wp2_with fail
    refine (none_any b k _ HC.out).mono ?_
    rintro e w1 ⟨rfl, rfl⟩
    rw [hm]
    go_wp2_with fail
    refine (end_any b k code _ HC.out).mono ?_
    rintro e w2 ⟨v, own, rfl, h1, h2, h3⟩
    have HX := Lib.hid (And.intro h1 (And.intro h2 h3))
    clear h1 h2 h3
    go_wp2_with fail
    go_ret
    rw [HG.out]
    exact ⟨⟨_, own, rfl, HX.out⟩⟩

structure TellEnd (w : World) (l : List Sy) (e : Ending) (w' : World) : Prop where
  ex : ∃ v own, e = .returned v ∧ SaysN w.heap.size w' v l own ∧ Upd [] w w'
set_option maxHeartbeats 1000000 in
theorem tell_any (b : Nat) (k : K) (kind value : Int) (text : ByteArray) (w : World) (h : CallAt w b k) (hm : k.made = true) (hs : text.size ≤ maxLen) :
    Calls Tryz.prog 183 #[.pointer (some ⟨b, 0, none⟩), .int .i64 kind, .int .i64 value, .string text] w (TellEnd w (k.tell kind value text)) := by
  have HC := Lib.hid h
  obtain ⟨vw, vg, hb⟩ := h.cells_
  have g5 := hb.cell 5
  have hlt := hb.lt
  simp [K.cells] at g5
  simp only [maxLen] at hs
  clear hb h
  by_cases t3 : k.state = 3
  · by_cases tl : 1000 < text.size
    · have HG : Hid (k.tell kind value text = []) := by show _ = _; unfold K.tell; rw [if_pos (.inr tl)]
      rw [t3] at g5
      clear t3
      go_enter Tryz.func183, Tryz.ntmps183
      go_wp2_with fail
      refine (none_any b k _ HC.out).mono ?_
      rintro e w1 ⟨rfl, rfl⟩
      rw [hm]
      go_wp2_with fail
      go_ret
      rw [HG.out]
      exact ⟨⟨_, [], rfl, SaysN.nil _ _, Upd.refl _ _⟩⟩
    · have HG : Hid (k.tell kind value text = [k.say kind [⟨true, false, 0, value, text⟩]]) := by show _ = _; unfold K.tell; rw [if_neg (by simp [t3, tl])]
      have HA := Lib.hid (avs_one w ⟨true, false, 0, value, text⟩)
      have HC2 := Lib.hid (HC.out.upd ((Upd.refl [] w).alloc (.cells #[.bool true, .bool false, .int .i64 0, .int .i64 value, .string text] 85)))
      rw [t3] at g5
      clear t3
      go_enter Tryz.func183, Tryz.ntmps183
      go_wp2_with fail
      refine (none_any b k _ HC.out).mono ?_
      rintro e w1 ⟨rfl, rfl⟩
      rw [hm]
      go_wp2_with fail
      refine (say_any b _ kind _ _ _ HC2.out HA.out (by simp)).mono ?_
      rintro e w3 ⟨u, ou, rfl, ho, hu3, hf3⟩
      have HF3 : Hid (∀ x ∈ ou, w.heap.size ≤ x) := fun x hx => Nat.le_trans ((Upd.refl [] w).alloc (.cells #[.bool true, .bool false, .int .i64 0, .int .i64 value, .string text] 85)).size (hf3 x hx)
      have HO := Lib.hid ho
      have HU : Hid (Upd [] w w3) := ((Upd.refl [] w).alloc _).trans hu3
      obtain ⟨ao, cap, rfl, -, -⟩ := ho.shape
      simp only [List.length_cons, List.length_nil] at HO ⊢
      clear ho hu3 hf3
      go_wp2_with fail
      go_ret
      rw [HG.out]
      exact ⟨⟨_, _, rfl, SaysN.one HO.out HF3.out HU.out.size, HU.out.alloc _⟩⟩
  · have HG : Hid (k.tell kind value text = []) := by show _ = _; unfold K.tell; rw [if_pos (.inl t3)]
    have tb : (k.state != 3) = true := by simpa using t3
    clear t3
    go_enter Tryz.func183, Tryz.ntmps183
    go_wp2_with fail
    refine (none_any b k _ HC.out).mono ?_
    rintro e w1 ⟨rfl, rfl⟩
    rw [hm]
    go_wp2_with fail
    go_ret
    rw [HG.out]
    exact ⟨⟨_, [], rfl, SaysN.nil _ _, Upd.refl _ _⟩⟩
set_option maxHeartbeats 400000 in
theorem errors_any (b : Nat) (k : K) (text : ByteArray) (w : World) (h : CallAt w b k) (hm : k.made = true) (hs : text.size ≤ maxLen) :
    Calls Tryz.prog 43 #[.pointer (some ⟨b, 0, none⟩), .string text] w (TellEnd w (k.tell 15 34 text)) := by
  have HT := Lib.hid (tell_any b k 15 34 text w h hm hs)
  clear h hm hs
  go_enter Tryz.func43, Tryz.ntmps43
  go_wp2_with fail
  refine HT.out.mono ?_
  rintro e w1 ⟨v, own, rfl, h1, h2⟩
  have HX := Lib.hid (And.intro h1 h2)
  clear h1 h2
  go_wp2_with fail
  go_ret
  exact ⟨⟨_, own, rfl, HX.out⟩⟩
set_option maxHeartbeats 400000 in
theorem map_any (b : Nat) (k : K) (text : ByteArray) (w : World) (h : CallAt w b k) (hm : k.made = true) (hs : text.size ≤ maxLen) :
    Calls Tryz.prog 45 #[.pointer (some ⟨b, 0, none⟩), .string text] w (TellEnd w (k.tell 16 35 text)) := by
  have HT := Lib.hid (tell_any b k 16 35 text w h hm hs)
  clear h hm hs
  go_enter Tryz.func45, Tryz.ntmps45
  go_wp2_with fail
  refine HT.out.mono ?_
  rintro e w1 ⟨v, own, rfl, h1, h2⟩
  have HX := Lib.hid (And.intro h1 h2)
  clear h1 h2
  go_wp2_with fail
  go_ret
  exact ⟨⟨_, own, rfl, HX.out⟩⟩
set_option maxHeartbeats 400000 in
theorem new_call (id serial : Int) (out : Bool) (w : World) (h1 : 1 ≤ id ∧ id ≤ 65535) (h2 : 0 ≤ serial ∧ serial ≤ 4294967295) :
    Calls Tryz.prog 35 #[.int .i64 id, .int .i64 serial, .bool out] w fun e w' => e = .returned (.tuple #[.pointer (some ⟨w.heap.size, 0, none⟩), .int .i64 0]) ∧ CallAt w' w.heap.size (K.new id serial out) ∧ Upd [] w w' := by
  obtain ⟨a1, a2⟩ := h1
  obtain ⟨a3, a4⟩ := h2
  go_enter Tryz.func35, Tryz.ntmps35
  go_wp2_with fail
  go_ret2
  exact ⟨rfl, ⟨_, _, [], [], Blk.new _ _ _, Own.nil _ _ _, Own.nil _ _ _⟩, (Upd.refl _ _).alloc _⟩
set_option maxHeartbeats 400000 in
theorem state_any (b : Nat) (k : K) (w : World) (h : CallAt w b k) (hm : k.made = true) : Calls Tryz.prog 53 #[.pointer (some ⟨b, 0, none⟩)] w fun e w' => e = .returned (.int .i64 k.state) ∧ w = w' := by
  have HC := Lib.hid h
  obtain ⟨vw, vg, hb⟩ := h.cells_
  have g5 := hb.cell 5
  simp [K.cells] at g5
  clear hb h
  go_enter Tryz.func53, Tryz.ntmps53
  go_wp2_with fail
  refine (none_any b k _ HC.out).mono ?_
  rintro e w1 ⟨rfl, rfl⟩
  rw [hm]
  go_wp2_with fail
  go_ret
  exact ⟨rfl, rfl⟩
set_option maxHeartbeats 400000 in
theorem ids_any (b : Nat) (k : K) (w : World) (h : CallAt w b k) (hm : k.made = true) : Calls Tryz.prog 51 #[.pointer (some ⟨b, 0, none⟩)] w fun e w' => e = .returned (.tuple #[.int .i64 k.id, .int .i64 k.peer]) ∧ Upd [] w w' := by
  have HC := Lib.hid h
  obtain ⟨vw, vg, hb⟩ := h.cells_
  have g0 := hb.cell 0
  have g2 := hb.cell 2
  simp [K.cells] at g0 g2
  clear hb h
  go_enter Tryz.func51, Tryz.ntmps51
  go_wp2_with fail
  refine (none_any b k _ HC.out).mono ?_
  rintro e w1 ⟨rfl, rfl⟩
  rw [hm]
  go_wp2_with fail
  go_quiet (fail)
  go_wp2_with fail
  go_ret2
  exact ⟨rfl, (Upd.refl _ _).drewN _⟩
set_option maxHeartbeats 400000 in
theorem heard_any (b : Nat) (k : K) (w : World) (h : CallAt w b k) (hm : k.made = true) : Calls Tryz.prog 52 #[.pointer (some ⟨b, 0, none⟩)] w fun e w' => e = .returned (.tuple #[.int .i64 k.wens, .int .i64 k.slis]) ∧ Upd [] w w' := by
  have HC := Lib.hid h
  obtain ⟨vw, vg, hb⟩ := h.cells_
  have g0 := hb.cell 8
  have g2 := hb.cell 9
  simp [K.cells] at g0 g2
  clear hb h
  go_enter Tryz.func52, Tryz.ntmps52
  go_wp2_with fail
  refine (none_any b k _ HC.out).mono ?_
  rintro e w1 ⟨rfl, rfl⟩
  rw [hm]
  go_wp2_with fail
  go_quiet (fail)
  go_wp2_with fail
  go_ret2
  exact ⟨rfl, (Upd.refl _ _).drewN _⟩
end Go.Proofs.YtglafpdealjlnaaGreat
