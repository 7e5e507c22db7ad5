/- The walks of a call's end, Open, connection. -/
import Derived.Test.YtglafpdealjlnaaGreatQCallA
namespace Go.Proofs.YtglafpdealjlnaaGreat
open Go.RowKit
set_option linter.unusedSimpArgs false
set_option linter.unusedVariables false
set_option maxRecDepth 100000

theorem CallAt.set {w : World} {b : Nat} {k k' : K} (h : CallAt w b k) (i : Nat) (v : Value) (hc : ∀ vw vg, (k.cells vw vg).setIfInBounds i v = k'.cells vw vg) (hw : k'.with_ = k.with_) (hg : k'.got = k.got) : CallAt (w.setCell ⟨b, i, none⟩ v) b k' := by
  obtain ⟨vw, vg, ow, og, h1, h2, h3⟩ := h
  refine ⟨vw, vg, ow, og, Blk.of_eq (h1.set_ i v) (hc vw vg), ?_, ?_⟩
  · rw [hw]; exact h2.setCell v (h2.ne_blk h1 (by decide))
  · rw [hg]; exact h3.setCell v (h3.ne_blk h1 (by decide))
theorem CallAt.cells_ {w : World} {b : Nat} {k : K} (h : CallAt w b k) : ∃ vw vg, Blk w b 193 (k.cells vw vg) := by
  obtain ⟨vw, vg, ow, og, h1, h2, h3⟩ := h
  exact ⟨vw, vg, h1⟩
theorem CallAt.own_num {w : World} {b : Nat} {k : K} {x : ByteArray} (h : CallAt w b k) (hx : be 2 k.id = x) :
    Calls Tryz.prog 177 #[.pointer (some ⟨b, 0, none⟩)] w fun e w' => e = .returned (.agg #[.bool true, .bool false, .int .i64 0, .int .i64 14, .string x]) ∧ Upd [] w w' := by
  have h1 := own_any b k w h
  have h2 : k.own.agg = .agg #[.bool true, .bool false, .int .i64 0, .int .i64 14, .string x] := by rw [← hx]; rfl
  rw [h2] at h1
  exact h1
/-- What is said, and what is left of the call. -/
structure SaidEnd (w : World) (b : Nat) (p : K × List Sy) (e : Ending) (w' : World) : Prop where
  ex : ∃ v own, e = .returned v ∧ SaysN w.heap.size w' v p.2 own ∧ CallAt w' b p.1 ∧ Upd [b] w w'
/-- Two values side by side, new. -/
theorem avs_two (w : World) (a b : Av) : AvsAt (w.alloc (.cells #[.bool a.must, .bool a.hidden, .int .i64 a.vendor, .int .i64 a.kind, .string a.val, .bool b.must, .bool b.hidden, .int .i64 b.vendor, .int .i64 b.kind, .string b.val] 85)) (.slice (some ⟨w.heap.size, 0, none⟩) 2 2) [a, b] :=
  AvsAt.of_blk (l := [a, b]) (Blk.new w 85 _) (by simp [maxLen])
theorem avs_one (w : World) (a : Av) : AvsAt (w.alloc (.cells #[.bool a.must, .bool a.hidden, .int .i64 a.vendor, .int .i64 a.kind, .string a.val] 85)) (.slice (some ⟨w.heap.size, 0, none⟩) 1 1) [a] :=
  AvsAt.of_blk (l := [a]) (Blk.new w 85 _) (by simp [maxLen])

set_option maxHeartbeats 2000000 in
theorem end_any (b : Nat) (k : K) (code : Int) (w : World) (h : CallAt w b k) :
    Calls Tryz.prog 181 #[.pointer (some ⟨b, 0, none⟩), .int .i64 code] w (SaidEnd w b (k.fin code)) := by
  obtain ⟨x2, hx2⟩ : ∃ x, be 2 k.id = x := ⟨_, rfl⟩
  have HX2 := Lib.hid hx2
  obtain ⟨x1, hx1⟩ : ∃ x, be 2 code = x := ⟨_, rfl⟩
  have hn1 := fun W => num_ok 1 code 2 (by omega) W
  simp only [Av.agg, numAv, hx1] at hn1
  have HN1 := Lib.hid hn1
  have HE1 : Hid (numAv 1 code 2 = ⟨true, false, 0, 1, x1⟩) := by rw [← hx1]; rfl
  clear hx1 hn1
  have HK : Hid (CallAt (w.setCell ⟨b, 5, none⟩ (.int .i64 4)) b { k with state := 4 }) := h.set 5 _ (fun _ _ => rfl) rfl rfl
  have HE2 : Hid (k.own = ⟨true, false, 0, 14, x2⟩) := by rw [← hx2]; rfl
  obtain ⟨vw, vg, hb⟩ := h.cells_
  have g5 := hb.cell 5
  have f5 := hb.frozen 5
  have hlt := hb.lt
  simp [K.cells] at g5
  clear hb h hx2
  go_enter Tryz.func181, Tryz.ntmps181
  go_wp2_with fail
  refine (HN1.out _).mono ?_
  rintro e w1 ⟨rfl, hu1⟩
  have HK1 := Lib.hid (HK.out.upd hu1)
  have HU1 : Hid (Upd [b] w w1) := ((Upd.refl [b] w).setCell _ (.inl (by simp))).trans (hu1.mono (by simp))
  clear hu1 g5 f5
  go_wp2_with fail
  refine (HK1.out.own_num HX2.out).mono ?_
  rintro e w2 ⟨rfl, hu2⟩
  have HK2 := Lib.hid (HK1.out.upd hu2)
  have HU2 : Hid (Upd [b] w w2) := HU1.out.trans (hu2.mono (by simp))
  clear hu2
  have HA := Lib.hid (avs_two w2 ⟨true, false, 0, 1, x1⟩ ⟨true, false, 0, 14, x2⟩)
  have HK3 := Lib.hid (HK2.out.upd ((Upd.refl [] w2).alloc (.cells #[.bool true, .bool false, .int .i64 0, .int .i64 1, .string x1, .bool true, .bool false, .int .i64 0, .int .i64 14, .string x2] 85)))
  have HU3 : Hid (Upd [b] w (w2.alloc (.cells #[.bool true, .bool false, .int .i64 0, .int .i64 1, .string x1, .bool true, .bool false, .int .i64 0, .int .i64 14, .string x2] 85))) := HU2.out.alloc _
  go_wp2_with fail
  refine (say_any b _ 14 _ _ _ HK3.out HA.out (by simp)).mono ?_
  rintro e w3 ⟨u, ou, rfl, ho, hu3, hf3⟩
  have HF3 := Lib.hid hf3
  have HO := Lib.hid ho
  have HK4 := Lib.hid (HK3.out.upd hu3)
  have HU4 : Hid (Upd [b] w w3) := HU3.out.trans (hu3.mono (by simp))
  obtain ⟨ao, cap, rfl, -, -⟩ := ho.shape
  simp only [List.length_cons, List.length_nil] at HO ⊢
  clear ho hu3 hf3
  go_wp2_with fail
  go_ret
  refine ⟨⟨_, [w3.heap.size], rfl, ?_, HK4.out.upd ((Upd.refl [] w3).alloc _), HU4.out.alloc _⟩⟩
  have e : (k.fin code).2 = [(k.peer, [numAv 0 14 2, ⟨true, false, 0, 1, x1⟩, ⟨true, false, 0, 14, x2⟩])] := by rw [← HE1.out, ← HE2.out]; rfl
  rw [e]
  exact SaysN.one HO.out (fun x hx => Nat.le_trans HU3.out.size (HF3.out x hx)) HU4.out.size

def stageA (w0 : World) (R : List Value → World → Prop) (vs : List Value) (w : World) : Prop := Upd [] w0 w ∧ R vs w
def openR (lo : Nat) (k : K) (x2 x4 : ByteArray) (vs : List Value) (w : World) : Prop := match vs with
  | [] => True
  | [a] => a = .int .i64 (kindFor k.out 1)
  | [a, o] => a = .int .i64 (kindFor k.out 1) ∧ o = .agg #[.bool true, .bool false, .int .i64 0, .int .i64 14, .string x2]
  | [a, o, m] => a = .int .i64 (kindFor k.out 1) ∧ o = .agg #[.bool true, .bool false, .int .i64 0, .int .i64 14, .string x2] ∧ m = .agg #[.bool true, .bool false, .int .i64 0, .int .i64 15, .string x4]
  | [a, _, _, s] => a = .int .i64 (kindFor k.out 1) ∧ AvsAt w s [⟨true, false, 0, 14, x2⟩, ⟨true, false, 0, 15, x4⟩] ∧ ∃ g, s = .slice (some ⟨g, 0, none⟩) 2 2
  | [_, _, _, _, y] => ∃ u own, (∀ x ∈ own, lo ≤ x) ∧ y = .agg #[.int .i64 k.peer, u] ∧ (∃ ao n cap, u = .slice ao n cap) ∧ Own w 85 5 u (numAv 0 (kindFor k.out 1) 2 :: [⟨true, false, 0, 14, x2⟩, ⟨true, false, 0, 15, x4⟩]).length (avCells (numAv 0 (kindFor k.out 1) 2 :: [⟨true, false, 0, 14, x2⟩, ⟨true, false, 0, 15, x4⟩])) own
  | [_, _, _, _, _, z] => ∃ own, SaysN lo w z [(k.peer, numAv 0 (kindFor k.out 1) 2 :: [⟨true, false, 0, 14, x2⟩, ⟨true, false, 0, 15, x4⟩])] own
  | [_, _, _, _, _, _, z] => ∃ own, SaysN lo w z [(k.peer, numAv 0 (kindFor k.out 1) 2 :: [⟨true, false, 0, 14, x2⟩, ⟨true, false, 0, 15, x4⟩])] own
  | _ => False
set_option maxHeartbeats 2000000 in
theorem open_any (b : Nat) (k : K) (w : World) (h : CallAt w b k) (hm : k.made = true) :
    Calls Tryz.prog 37 #[.pointer (some ⟨b, 0, none⟩)] w (SaidEnd w b k.openC) := by
  obtain ⟨x2, hx2⟩ : ∃ x, be 2 k.id = x := ⟨_, rfl⟩
  have HX2 := Lib.hid hx2
  obtain ⟨x4, hx4⟩ : ∃ x, be 4 k.serial = x := ⟨_, rfl⟩
  have hn4 := fun W => num_ok 15 k.serial 4 (by omega) W
  simp only [Av.agg, numAv, hx4] at hn4
  have HN4 := Lib.hid hn4
  have HE4 : Hid (numAv 15 k.serial 4 = ⟨true, false, 0, 15, x4⟩) := by rw [← hx4]; rfl
  clear hx4 hn4
  have HE2 : Hid (k.own = ⟨true, false, 0, 14, x2⟩) := by rw [← hx2]; rfl
  have HK : Hid (CallAt (w.setCell ⟨b, 5, none⟩ (.int .i64 1)) b { k with state := 1 }) := h.set 5 _ (fun _ _ => rfl) rfl rfl
  have HLO : Hid (∀ W, Upd [] (w.setCell ⟨b, 5, none⟩ (.int .i64 1)) W → w.heap.size ≤ W.heap.size) := fun W hu => (((Upd.refl [b] w).setCell (p := ⟨b, 5, none⟩) (.int .i64 1) (.inl (by simp))).trans (hu.mono (by simp))).size
  obtain ⟨vw, vg, hb⟩ := h.cells_
  have HC := Lib.hid h
  have g5 := hb.cell 5
  have f5 := hb.frozen 5
  have hlt := hb.lt
  simp [K.cells] at g5
  clear hb h hx2
  by_cases t : k.state = 0
  · have hgg : (K.openC k) = ({ k with state := 1 }, [k.say (kindFor k.out 1) [k.own, numAv 15 k.serial 4]]) := by unfold K.openC; rw [if_pos t]
    have HG := Lib.hid hgg
    clear hgg
    rw [t] at g5
    clear t
    go_enter Tryz.func37, Tryz.ntmps37
    go_wp2_with fail
    refine (none_any b k _ HC.out).mono ?_
    rintro e w1 ⟨rfl, rfl⟩
    rw [hm]
    go_upto_region 4 with (fail)
    refine wp_region_chain [some (.pointer (some ⟨b, 0, none⟩)), some (.pointer (some ⟨b, 0, none⟩)), none, some (.pointer (some ⟨b, 0, none⟩)), none, some (.pointer (some ⟨b, 0, none⟩)), some (.pointer (some ⟨b, 0, none⟩)), some (.pointer (some ⟨b, 1, none⟩)), some (.int .i64 k.serial), none, none, none, none, none] [2,4,9,10,11,12,13] (stageA (w.setCell ⟨b, 5, none⟩ (.int .i64 1)) (openR w.heap.size { k with state := 1 } x2 x4)) [(0, 4), (0, 0), (0, 0), (0, 1), (1, 1), (0, 2), (0, 2), (0, 2), (0, 2), (2, 2), (3, 3), (4, 4), (5, 5), (6, 6)] (by kernel_rfl) (by kernel_rfl) (by kernel_rfl) (by kernel_rfl) (by kernel_rfl) (by kernel_rfl) (⟨(Upd.refl [] _).drew, trivial⟩) ?_ ?_
    · refine StepsC.cons ?_ (StepsC.cons ?_ (StepsC.cons ?_ (StepsC.cons ?_ (StepsC.cons ?_ (StepsC.cons ?_ (StepsC.cons ?_ (StepsC.cons ?_ (StepsC.cons ?_ (StepsC.cons ?_ (StepsC.cons ?_ (StepsC.cons ?_ (StepsC.cons ?_ (StepsC.cons ?_ StepsC.nil)))))))))))))
      · refine chain_is _ (.inl rfl) ⟨_, rfl⟩ (by kernel_rfl) rfl ?_
        intro a W kst l0 h0 A0 hF hD
        have e0 : a.tmps[0]?.getD undef = _ := (ev a 0).symm.trans (hF 0 (by kernel_rfl))
        clear hF hD
        go_simp
      · refine chain_is _ (.inl rfl) ⟨_, rfl⟩ (by kernel_rfl) rfl ?_
        intro a W kst l0 h0 A0 hF hD
        have k0 : kst = 0 := Nat.le_antisymm h0 l0
        subst k0
        clear l0 h0
        have e0 : a.tmps[0]?.getD undef = _ := (ev a 0).symm.trans (hF 0 (by kernel_rfl))
        clear hF hD
        go_simp
      · refine chain_call (.inl rfl) ⟨_, rfl⟩ (by kernel_rfl) ?_
        intro a W kst l0 h0 A0 hF hD
        have k0 : kst = 0 := Nat.le_antisymm h0 l0
        subst k0
        clear l0 h0
        have e16 : a.tmps[16]?.getD undef = .pointer (some ⟨b, 0, none⟩) := (ev a 16).symm.trans (hD _ (Array.mem_of_getElem? (i := 0) rfl) rfl)
        clear hF hD
        have hu := A0.1
        refine ⟨_, _, by (go_simp; first | done | rfl | exact ⟨rfl, rfl⟩), ?_⟩
        refine (kind_for b _ 1 _ (HK.out.upd hu)).mono ?_
        rintro e w3 ⟨rfl, hu2⟩
        exact ⟨_, rfl, trivial, hu.trans hu2, rfl⟩
      · refine chain_is _ (.inl rfl) ⟨_, rfl⟩ (by kernel_rfl) rfl ?_
        intro a W kst l0 h0 A0 hF hD
        have e0 : a.tmps[0]?.getD undef = _ := (ev a 0).symm.trans (hF 0 (by kernel_rfl))
        clear hF hD
        go_simp
      · refine chain_call (.inl rfl) ⟨_, rfl⟩ (by kernel_rfl) ?_
        intro a W kst l0 h0 A0 hF hD
        have k0 : kst = 1 := Nat.le_antisymm h0 l0
        subst k0
        clear l0 h0
        have e18 : a.tmps[18]?.getD undef = .pointer (some ⟨b, 0, none⟩) := (ev a 18).symm.trans (hD _ (Array.mem_of_getElem? (i := 0) rfl) rfl)
        clear hF hD
        obtain ⟨hu, h1⟩ := A0
        refine ⟨_, _, by (go_simp; first | done | rfl | exact ⟨rfl, rfl⟩), ?_⟩
        refine ((HK.out.upd hu).own_num HX2.out).mono ?_
        rintro e w3 ⟨rfl, hu2⟩
        exact ⟨_, rfl, trivial, hu.trans hu2, h1, rfl⟩
      · refine chain_is _ (.inl rfl) ⟨_, rfl⟩ (by kernel_rfl) rfl ?_
        intro a W kst l0 h0 A0 hF hD
        have e0 : a.tmps[0]?.getD undef = _ := (ev a 0).symm.trans (hF 0 (by kernel_rfl))
        clear hF hD
        go_simp
      · refine chain_is _ (.inl rfl) ⟨_, rfl⟩ (by kernel_rfl) rfl ?_
        intro a W kst l0 h0 A0 hF hD
        have e20 : a.tmps[20]?.getD undef = .pointer (some ⟨b, 0, none⟩) := (ev a 20).symm.trans (hD _ (Array.mem_of_getElem? (i := 0) rfl) rfl)
        clear hF hD
        go_simp
      · refine chain_is _ (.inl rfl) ⟨_, rfl⟩ (by kernel_rfl) rfl ?_
        intro a W kst l0 h0 A0 hF hD
        have e21 : a.tmps[21]?.getD undef = .pointer (some ⟨b, 0, none⟩) := (ev a 21).symm.trans (hD _ (Array.mem_of_getElem? (i := 0) rfl) rfl)
        clear hF hD
        go_simp
      · refine chain_is _ (.inl rfl) ⟨_, rfl⟩ (by kernel_rfl) rfl ?_
        intro a W kst l0 h0 A0 hF hD
        have e22 : a.tmps[22]?.getD undef = .pointer (some ⟨b, 1, none⟩) := (ev a 22).symm.trans (hD _ (Array.mem_of_getElem? (i := 0) rfl) rfl)
        clear hF hD
        have hu := A0.1
        obtain ⟨vw2, vg2, hb2⟩ := (HK.out.upd hu).cells_
        have g1 := hb2.cell 1
        simp [K.cells] at g1
        go_simp
      · refine chain_call (.inl rfl) ⟨_, rfl⟩ (by kernel_rfl) ?_
        intro a W kst l0 h0 A0 hF hD
        have k0 : kst = 2 := Nat.le_antisymm h0 l0
        subst k0
        clear l0 h0
        have e23 : a.tmps[23]?.getD undef = .int .i64 k.serial := (ev a 23).symm.trans (hD _ (Array.mem_of_getElem? (i := 0) rfl) rfl)
        clear hF hD
        obtain ⟨hu, h1, h2⟩ := A0
        refine ⟨_, _, by (go_simp; first | done | rfl | exact ⟨rfl, rfl⟩), ?_⟩
        refine (HN4.out _).mono ?_
        rintro e w3 ⟨rfl, hu2⟩
        exact ⟨_, rfl, trivial, hu.trans hu2, h1, h2, rfl⟩
      · refine chain_run (.inl rfl) ⟨_, rfl⟩ (by kernel_rfl) ?_
        intro a W kst l0 h0 A0 hF hD
        have k0 : kst = 3 := Nat.le_antisymm h0 l0
        subst k0
        clear l0 h0
        clear hF hD
        obtain ⟨hu, h1, h2, h3⟩ := A0
        have e19 : a.tmps[19]?.getD undef = _ := (ev a 19).symm.trans h2
        have e24 : a.tmps[24]?.getD undef = _ := (ev a 24).symm.trans h3
        exact ⟨.slice (some ⟨W.heap.size, 0, none⟩) 2 2, W.alloc (.cells #[.bool true, .bool false, .int .i64 0, .int .i64 14, .string x2, .bool true, .bool false, .int .i64 0, .int .i64 15, .string x4] 85), by go_simp, trivial, hu.alloc _, h1, avs_two W ⟨true, false, 0, 14, x2⟩ ⟨true, false, 0, 15, x4⟩, ⟨_, rfl⟩⟩
      · refine chain_call (.inl rfl) ⟨_, rfl⟩ (by kernel_rfl) ?_
        intro a W kst l0 h0 A0 hF hD
        have k0 : kst = 4 := Nat.le_antisymm h0 l0
        subst k0
        clear l0 h0
        have e15 : a.tmps[15]?.getD undef = .pointer (some ⟨b, 0, none⟩) := (ev a 15).symm.trans (hD _ (Array.mem_of_getElem? (i := 0) rfl) rfl)
        clear hF hD
        obtain ⟨hu, h1, h2, ⟨g, hg⟩⟩ := A0
        have e17 : a.tmps[17]?.getD undef = _ := (ev a 17).symm.trans h1
        have e25 : a.tmps[25]?.getD undef = _ := (ev a 25).symm.trans hg
        rw [hg] at h2
        refine ⟨_, _, by (go_simp; first | done | rfl | exact ⟨rfl, rfl⟩), ?_⟩
        refine (say_any b _ _ _ _ _ (HK.out.upd hu) h2 (by simp)).mono ?_
        rintro e w3 ⟨u, ou, rfl, ho, hu3, hf3⟩
        obtain ⟨ao1, cap1, hv, -, -⟩ := ho.shape
        exact ⟨_, rfl, trivial, hu.trans hu3, u, ou, fun x hx => Nat.le_trans (HLO.out _ hu) (hf3 x hx), rfl, ⟨ao1, 3, cap1, hv⟩, ho⟩
      · refine chain_run (.inl rfl) ⟨_, rfl⟩ (by kernel_rfl) ?_
        intro a W kst l0 h0 A0 hF hD
        have k0 : kst = 5 := Nat.le_antisymm h0 l0
        subst k0
        clear l0 h0
        clear hF hD
        obtain ⟨hu, u, ou, hf, hy, ⟨ao1, n1, cap1, hv⟩, ho⟩ := A0
        subst hv
        have e26 : a.tmps[26]?.getD undef = _ := (ev a 26).symm.trans hy
        have HO := Lib.hid ho
        clear ho
        exact ⟨.slice (some ⟨W.heap.size, 0, none⟩) 1 1, W.alloc (.cells #[.int .i64 k.peer, .slice ao1 n1 cap1] 191), by go_simp, trivial, hu.alloc _, _, SaysN.one HO.out hf (HLO.out _ hu)⟩
      · refine chain_run (.inl rfl) ⟨_, rfl⟩ (by kernel_rfl) ?_
        intro a W kst l0 h0 A0 hF hD
        have k0 : kst = 6 := Nat.le_antisymm h0 l0
        subst k0
        clear l0 h0
        clear hF hD
        obtain ⟨hu, own1, hs⟩ := A0
        exact ⟨_, W, by (go_simp; first | done | rfl | exact ⟨rfl, rfl⟩), trivial, hu, own1, by rw [← ev]; exact hs⟩
    intro vals W hv hA
    have v0 : vals 0 = .pointer (some ⟨b, 0, none⟩) := hv 0 (by decide)
    have v1 : vals 1 = .pointer (some ⟨b, 0, none⟩) := hv 1 (by decide)
    have v3 : vals 3 = .pointer (some ⟨b, 0, none⟩) := hv 3 (by decide)
    have v5 : vals 5 = .pointer (some ⟨b, 0, none⟩) := hv 5 (by decide)
    have v6 : vals 6 = .pointer (some ⟨b, 0, none⟩) := hv 6 (by decide)
    have v7 : vals 7 = .pointer (some ⟨b, 1, none⟩) := hv 7 (by decide)
    have v8 : vals 8 = .int .i64 k.serial := hv 8 (by decide)
    clear hv
    obtain ⟨hu, own1, hs⟩ := hA
    simp only [putAll, Act.put, Nat.zero_add, Nat.reduceAdd, v0, v1, v3, v5, v6, v7, v8, List.setIfInBounds_toArray, List.set_cons_zero, List.set_cons_succ]
    clear v0 v1 v3 v5 v6 v7 v8
    generalize vals 13 = v13 at *
    have HS := Lib.hid hs
    have HU2 := Lib.hid hu
    clear hs hu g5 f5
    go_wp2_with fail
    go_ret
    rw [HG.out]
    refine ⟨⟨_, own1, rfl, ?_, HK.out.upd HU2.out, ((Upd.refl [b] w).setCell _ (.inl (by simp))).trans (HU2.out.mono (by simp))⟩⟩
    have h := HS.out
    rw [← HE4.out, ← HE2.out] at h
    exact h
  · have hgg : (K.openC k) = (k, []) := by unfold K.openC; rw [if_neg t]
    have HG := Lib.hid hgg
    clear hgg HK
    have tb : (k.state != 0) = true := by simpa using t
    clear t
    go_enter Tryz.func37, Tryz.ntmps37
    go_wp2_with fail
    refine (none_any b k _ HC.out).mono ?_
    rintro e w1 ⟨rfl, rfl⟩
    rw [hm]
    go_wp2_with fail
    go_ret
    rw [HG.out]
    exact ⟨⟨_, [], rfl, SaysN.nil _ _, HC.out, Upd.refl _ _⟩⟩
end Go.Proofs.YtglafpdealjlnaaGreat
