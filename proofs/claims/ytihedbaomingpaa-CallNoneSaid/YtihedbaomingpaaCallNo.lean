/- The walk of chapter 22's CallNone. -/
import Derived.Test.YtihedbaomingpaaCallNil
import Derived.Test.YtihedbaomingpaaCtlIn
namespace Go.Proofs.Ytihedbaomingpaa
open Go.RowKit
set_option linter.unusedSimpArgs false
set_option linter.unusedVariables false
set_option maxRecDepth 100000

def noneA (w0 : World) (vs : List Value) (w : World) : Prop := Upd [] w0 w
def kz : K := ⟨0, 0, 0, false, false, 0, [], [], 0, 0⟩
set_option maxHeartbeats 8000000 in
theorem callNone_any (t s ns nr code : Int) (u : Value) (l : List Av) (w : World) (hl : AvsAt w u l) (hs : ∀ t ∈ l, t.val.size ≤ 140737488355328) :
    Calls Try.prog 7 #[.agg #[.int .i64 t, .int .i64 s, .int .i64 ns, .int .i64 nr, u], .int .i64 code] w fun e w' => e = .returned (.bool true) ∧ Upd [] w w' := by
  obtain ⟨ao, n, c, rfl⟩ := hl.shape
  have h0 : Upd [] w (w.alloc (.cells #[.int .i64 t, .int .i64 s, .int .i64 ns, .int .i64 nr, .slice ao n c] 33)) := (Upd.refl [] _).alloc _
  have hb := Blk.new w 33 #[.int .i64 t, .int .i64 s, .int .i64 ns, .int .i64 nr, .slice ao n c]
  have HL := Lib.hid (hl.upd h0)
  have HS := Lib.hid hs
  have HU := Lib.hid h0
  have HB := Lib.hid hb
  clear hl hs h0 hb
  go_enter Try.func7, Try.ntmps7
  go_wp2_with fail
  refine (lightA_any l _ _ HL.out HS.out).mono ?_
  rintro e w1 ⟨rfl, u1⟩
  have HU1 := Lib.hid (HU.out.trans u1)
  have HB1 := Lib.hid (HB.out.upd u1 (by simp))
  clear u1 HU HB
  cases hli : LightA l
  · go_wp2_with fail
    refine (alive_any _).mono ?_
    rintro e w2 ⟨rfl, u2⟩
    have HU2 := Lib.hid (HU1.out.trans u2)
    clear u2
    go_wp2_with fail
    go_ret
    exact ⟨rfl, HU2.out⟩
  · clear hli
    have c4 := HB1.out.cell 4
    simp at c4
    have hz : Upd [] w1 (w1.alloc (.cells #[.int .i64 0, .int .i64 0, .int .i64 0, .bool false, .bool false, .int .i64 0, .slice none 0 0, .slice none 0 0, .int .i64 0, .int .i64 0] 57)) := (Upd.refl [] _).alloc _
    have hc : CallAt (w1.alloc (.cells #[.int .i64 0, .int .i64 0, .int .i64 0, .bool false, .bool false, .int .i64 0, .slice none 0 0, .slice none 0 0, .int .i64 0, .int .i64 0] 57)) w1.heap.size kz := ⟨_, _, _, _, Blk.new w1 57 _, Own.nil _ _ _, Own.nil _ _ _⟩
    have HC2 := Lib.hid hc
    have HU2 := Lib.hid (HU1.out.trans hz)
    have HB2 := Lib.hid (HB1.out.upd hz (by simp))
    clear hz hc HU1 HB1
    have c0 := HB2.out.cell 0
    have c1 := HB2.out.cell 1
    have c2 := HB2.out.cell 2
    have c3 := HB2.out.cell 3
    have c4 := HB2.out.cell 4
    simp at c0 c1 c2 c3 c4
    go_wp2_with fail
    clear c0 c1 c2 c3 c4
    refine (With_nil _ _ _ _).mono ?_
    rintro e w3 ⟨rfl, u3⟩
    have HC3 := Lib.hid (HC2.out.upd u3)
    have HU3 := Lib.hid (HU2.out.trans u3)
    have HB3 := Lib.hid (HB2.out.upd u3 (by simp))
    clear u3 HC2 HU2 HB2
    have c0 := HB3.out.cell 0
    have c1 := HB3.out.cell 1
    have c2 := HB3.out.cell 2
    have c3 := HB3.out.cell 3
    have c4 := HB3.out.cell 4
    simp at c0 c1 c2 c3 c4
    go_wp2_with fail
    clear c0 c1 c2 c3 c4
    refine (With_zero _ kz rfl _ _ _ _ HC3.out).mono ?_
    rintro e w4 ⟨rfl, u4⟩
    have HC4 := Lib.hid (HC3.out.upd u4)
    have HU4 := Lib.hid (HU3.out.trans u4)
    have HB4 := Lib.hid (HB3.out.upd u4 (by simp))
    clear u4 HC3 HU3 HB3
    have c0 := HB4.out.cell 0
    have c1 := HB4.out.cell 1
    have c2 := HB4.out.cell 2
    have c3 := HB4.out.cell 3
    have c4 := HB4.out.cell 4
    simp at c0 c1 c2 c3 c4
    go_wp2_with fail
    clear c0 c1 c2 c3 c4
    refine (Ids_nil _).mono ?_
    rintro e w5 ⟨rfl, u5⟩
    have HC5 := Lib.hid (HC4.out.upd u5)
    have HU5 := Lib.hid (HU4.out.trans u5)
    have HB5 := Lib.hid (HB4.out.upd u5 (by simp))
    clear u5 HC4 HU4 HB4
    have c0 := HB5.out.cell 0
    have c1 := HB5.out.cell 1
    have c2 := HB5.out.cell 2
    have c3 := HB5.out.cell 3
    have c4 := HB5.out.cell 4
    simp at c0 c1 c2 c3 c4
    go_wp2_with fail
    clear c0 c1 c2 c3 c4
    refine (Heard_zero _ kz rfl _ HC5.out).mono ?_
    rintro e w6 ⟨rfl, u6⟩
    have HC6 := Lib.hid (HC5.out.upd u6)
    have HU6 := Lib.hid (HU5.out.trans u6)
    have HB6 := Lib.hid (HB5.out.upd u6 (by simp))
    clear u6 HC5 HU5 HB5
    have c0 := HB6.out.cell 0
    have c1 := HB6.out.cell 1
    have c2 := HB6.out.cell 2
    have c3 := HB6.out.cell 3
    have c4 := HB6.out.cell 4
    simp at c0 c1 c2 c3 c4
    go_upto_region 9 with (fail)
    refine wp_region_chain [some (.bool true), some (.bool true), some (.pointer none), some (.int .i64 4), some (.bool true), some (.bool true), some (.bool true), some (.pointer (some ⟨w1.heap.size, 0, none⟩)), some (.int .i64 4), some (.bool true), some (.bool true), some (.bool true), some (.pointer none), some (.slice none 0 0), some (.int .i64 0), some (.pointer (some ⟨w1.heap.size, 0, none⟩)), some (.slice none 0 0), some (.int .i64 0), some (.int .i64 0), some (.pointer none), some (.agg #[.int .i64 t, .int .i64 s, .int .i64 ns, .int .i64 nr, .slice ao n c]), some (.slice none 0 0), some (.int .i64 0), some (.int .i64 0), some (.pointer (some ⟨w1.heap.size, 0, none⟩)), some (.agg #[.int .i64 t, .int .i64 s, .int .i64 ns, .int .i64 nr, .slice ao n c]), some (.slice none 0 0), some (.int .i64 0), some (.int .i64 0), some (.pointer none), some (.int .i64 code), some (.slice none 0 0), some (.int .i64 0), some (.int .i64 0), some (.pointer (some ⟨w1.heap.size, 0, none⟩)), some (.int .i64 code), some (.slice none 0 0), some (.int .i64 0), some (.int .i64 0), some (.pointer none), some (.slice none 0 0), some (.int .i64 0), some (.int .i64 0), some (.pointer (some ⟨w1.heap.size, 0, none⟩)), some (.slice none 0 0), some (.int .i64 0), some (.int .i64 0), some (.pointer none), some (.slice none 0 0), some (.int .i64 0), some (.int .i64 0), some (.pointer (some ⟨w1.heap.size, 0, none⟩)), some (.slice none 0 0), some (.int .i64 0), some (.int .i64 0), some (.int .i64 0), some (.int .i64 0), some (.int .i64 0), some (.int .i64 0), some (.int .i64 0), some (.int .i64 0), some (.int .i64 0), some (.int .i64 0), some (.bool true), some (.bool true), some (.bool true)] [0,3,8,13,16,21,26,31,36,40,44,48,52] (noneA w6) [(0, 0), (1, 1), (1, 1), (1, 1), (2, 2), (2, 2), (2, 2), (2, 2), (2, 2), (3, 3), (3, 3), (3, 3), (3, 3), (3, 3), (4, 13), (3, 4), (4, 4), (5, 13), (5, 13), (3, 5), (3, 5), (5, 5), (6, 13), (6, 13), (3, 6), (3, 6), (6, 6), (7, 13), (7, 13), (3, 7), (3, 7), (7, 7), (8, 13), (8, 13), (3, 8), (3, 8), (8, 8), (9, 13), (9, 13), (3, 9), (9, 9), (10, 13), (10, 13), (3, 10), (10, 10), (11, 13), (11, 13), (3, 11), (11, 11), (12, 13), (12, 13), (3, 12), (12, 12), (13, 13), (13, 13), (3, 13), (13, 13), (3, 13), (13, 13), (3, 13), (13, 13), (3, 13), (13, 13), (13, 13), (13, 13), (13, 13)] (by kernel_rfl) (by kernel_rfl) (by kernel_rfl) (by kernel_rfl) (by kernel_rfl) (by kernel_rfl) ((Upd.refl [] _).drew) ?_ ?_
    · refine StepsC.cons ?_ (StepsC.cons ?_ (StepsC.cons ?_ (StepsC.cons ?_ (StepsC.cons ?_ (StepsC.cons ?_ (StepsC.cons ?_ (StepsC.cons ?_ (StepsC.cons ?_ (StepsC.cons ?_ (StepsC.cons ?_ (StepsC.cons ?_ (StepsC.cons ?_ (StepsC.cons ?_ (StepsC.cons ?_ (StepsC.cons ?_ (StepsC.cons ?_ (StepsC.cons ?_ (StepsC.cons ?_ (StepsC.cons ?_ (StepsC.cons ?_ (StepsC.cons ?_ (StepsC.cons ?_ (StepsC.cons ?_ (StepsC.cons ?_ (StepsC.cons ?_ (StepsC.cons ?_ (StepsC.cons ?_ (StepsC.cons ?_ (StepsC.cons ?_ (StepsC.cons ?_ (StepsC.cons ?_ (StepsC.cons ?_ (StepsC.cons ?_ (StepsC.cons ?_ (StepsC.cons ?_ (StepsC.cons ?_ (StepsC.cons ?_ (StepsC.cons ?_ (StepsC.cons ?_ (StepsC.cons ?_ (StepsC.cons ?_ (StepsC.cons ?_ (StepsC.cons ?_ (StepsC.cons ?_ (StepsC.cons ?_ (StepsC.cons ?_ (StepsC.cons ?_ (StepsC.cons ?_ (StepsC.cons ?_ (StepsC.cons ?_ (StepsC.cons ?_ (StepsC.cons ?_ (StepsC.cons ?_ (StepsC.cons ?_ (StepsC.cons ?_ (StepsC.cons ?_ (StepsC.cons ?_ (StepsC.cons ?_ (StepsC.cons ?_ (StepsC.cons ?_ (StepsC.cons ?_ (StepsC.cons ?_ (StepsC.cons ?_ (StepsC.cons ?_ (StepsC.cons ?_ StepsC.nil)))))))))))))))))))))))))))))))))))))))))))))))))))))))))))))))))
      · refine chain_call (.inl rfl) ⟨_, rfl⟩ (by kernel_rfl) ?_
        intro a W kst l0 h0 A0 hF hD
        have k0 : kst = 0 := Nat.le_antisymm h0 l0
        subst k0
        clear l0 h0
        clear hF hD
        have hu : Upd [] w6 W := A0
        refine ⟨_, _, by (go_simp; first | done | rfl | exact ⟨rfl, rfl⟩), ?_⟩
        refine (alive_any _).mono ?_
        rintro e w3 ⟨rfl, h3⟩
        exact ⟨_, rfl, rfl, hu.trans h3⟩
      · refine chain_is _ (.inl rfl) ⟨_, rfl⟩ (by kernel_rfl) rfl ?_
        intro a W kst l0 h0 A0 hF hD
        have k0 : kst = 1 := Nat.le_antisymm h0 l0
        subst k0
        clear l0 h0
        have e36 : a.tmps[36]?.getD undef = .bool true := (ev a 36).symm.trans (hD _ (Array.mem_of_getElem? (i := 0) rfl) rfl)
        clear hF hD
        go_simp
      · refine chain_is _ (.inr ⟨_, _, _, rfl, Array.mem_of_getElem? (i := 0) rfl, rfl, rfl, fun _ h => h⟩) ⟨_, rfl⟩ (by kernel_rfl) rfl ?_
        intro a W kst l0 h0 A0 hF hD
        have k0 : kst = 1 := Nat.le_antisymm h0 l0
        subst k0
        clear l0 h0
        have e5 : a.tmps[5]?.getD undef = _ := (ev a 5).symm.trans (hF 5 (by kernel_rfl))
        clear hF hD
        go_simp
      · refine chain_call (.inr ⟨_, _, _, rfl, Array.mem_of_getElem? (i := 1) rfl, rfl, rfl, fun _ h => h⟩) ⟨_, rfl⟩ (by kernel_rfl) ?_
        intro a W kst l0 h0 A0 hF hD
        have k0 : kst = 1 := Nat.le_antisymm h0 l0
        subst k0
        clear l0 h0
        have e38 : a.tmps[38]?.getD undef = .pointer none := (ev a 38).symm.trans (hD _ (Array.mem_of_getElem? (i := 0) rfl) rfl)
        clear hF hD
        have hu : Upd [] w6 W := A0
        refine ⟨_, _, by (go_simp; first | done | rfl | exact ⟨rfl, rfl⟩), ?_⟩
        refine (State_nil _).mono ?_
        rintro e w3 ⟨rfl, h3⟩
        exact ⟨_, rfl, rfl, hu.trans h3⟩
      · refine chain_is _ (.inr ⟨_, _, _, rfl, Array.mem_of_getElem? (i := 1) rfl, rfl, rfl, fun _ h => h⟩) ⟨_, rfl⟩ (by kernel_rfl) rfl ?_
        intro a W kst l0 h0 A0 hF hD
        have k0 : kst = 2 := Nat.le_antisymm h0 l0
        subst k0
        clear l0 h0
        have e39 : a.tmps[39]?.getD undef = .int .i64 4 := (ev a 39).symm.trans (hD _ (Array.mem_of_getElem? (i := 0) rfl) rfl)
        clear hF hD
        go_simp
      · refine chain_is _ (.inl rfl) ⟨_, rfl⟩ (by kernel_rfl) rfl ?_
        intro a W kst l0 h0 A0 hF hD
        have k0 : kst = 2 := Nat.le_antisymm h0 l0
        subst k0
        clear l0 h0
        have e37 : a.tmps[37]?.getD undef = .bool true := (ev a 37).symm.trans (hD _ (Array.mem_of_getElem? (i := 0) rfl) rfl)
        have e40 : a.tmps[40]?.getD undef = .bool true := (ev a 40).symm.trans (hD _ (Array.mem_of_getElem? (i := 1) rfl) rfl)
        clear hF hD
        go_simp
      · refine chain_is _ (.inl rfl) ⟨_, rfl⟩ (by kernel_rfl) rfl ?_
        intro a W kst l0 h0 A0 hF hD
        have k0 : kst = 2 := Nat.le_antisymm h0 l0
        subst k0
        clear l0 h0
        have e41 : a.tmps[41]?.getD undef = .bool true := (ev a 41).symm.trans (hD _ (Array.mem_of_getElem? (i := 0) rfl) rfl)
        clear hF hD
        go_simp
      · refine chain_is _ (.inr ⟨_, _, _, rfl, Array.mem_of_getElem? (i := 0) rfl, rfl, rfl, fun _ h => h⟩) ⟨_, rfl⟩ (by kernel_rfl) rfl ?_
        intro a W kst l0 h0 A0 hF hD
        have k0 : kst = 2 := Nat.le_antisymm h0 l0
        subst k0
        clear l0 h0
        have e6 : a.tmps[6]?.getD undef = _ := (ev a 6).symm.trans (hF 6 (by kernel_rfl))
        clear hF hD
        go_simp
      · refine chain_call (.inr ⟨_, _, _, rfl, Array.mem_of_getElem? (i := 1) rfl, rfl, rfl, fun _ h => h⟩) ⟨_, rfl⟩ (by kernel_rfl) ?_
        intro a W kst l0 h0 A0 hF hD
        have k0 : kst = 2 := Nat.le_antisymm h0 l0
        subst k0
        clear l0 h0
        have e43 : a.tmps[43]?.getD undef = .pointer (some ⟨w1.heap.size, 0, none⟩) := (ev a 43).symm.trans (hD _ (Array.mem_of_getElem? (i := 0) rfl) rfl)
        clear hF hD
        have hu : Upd [] w6 W := A0
        refine ⟨_, _, by (go_simp; first | done | rfl | exact ⟨rfl, rfl⟩), ?_⟩
        refine (State_zero _ kz rfl _ (HC6.out.upd hu)).mono ?_
        rintro e w3 ⟨rfl, h3⟩
        exact ⟨_, rfl, rfl, hu.trans h3⟩
      · refine chain_is _ (.inr ⟨_, _, _, rfl, Array.mem_of_getElem? (i := 1) rfl, rfl, rfl, fun _ h => h⟩) ⟨_, rfl⟩ (by kernel_rfl) rfl ?_
        intro a W kst l0 h0 A0 hF hD
        have k0 : kst = 3 := Nat.le_antisymm h0 l0
        subst k0
        clear l0 h0
        have e44 : a.tmps[44]?.getD undef = .int .i64 4 := (ev a 44).symm.trans (hD _ (Array.mem_of_getElem? (i := 0) rfl) rfl)
        clear hF hD
        go_simp
      · refine chain_is _ (.inl rfl) ⟨_, rfl⟩ (by kernel_rfl) rfl ?_
        intro a W kst l0 h0 A0 hF hD
        have k0 : kst = 3 := Nat.le_antisymm h0 l0
        subst k0
        clear l0 h0
        have e42 : a.tmps[42]?.getD undef = .bool true := (ev a 42).symm.trans (hD _ (Array.mem_of_getElem? (i := 0) rfl) rfl)
        have e45 : a.tmps[45]?.getD undef = .bool true := (ev a 45).symm.trans (hD _ (Array.mem_of_getElem? (i := 1) rfl) rfl)
        clear hF hD
        go_simp
      · refine chain_is _ (.inl rfl) ⟨_, rfl⟩ (by kernel_rfl) rfl ?_
        intro a W kst l0 h0 A0 hF hD
        have k0 : kst = 3 := Nat.le_antisymm h0 l0
        subst k0
        clear l0 h0
        have e46 : a.tmps[46]?.getD undef = .bool true := (ev a 46).symm.trans (hD _ (Array.mem_of_getElem? (i := 0) rfl) rfl)
        clear hF hD
        go_simp
      · refine chain_is _ (.inr ⟨_, _, _, rfl, Array.mem_of_getElem? (i := 0) rfl, rfl, rfl, fun _ h => h⟩) ⟨_, rfl⟩ (by kernel_rfl) rfl ?_
        intro a W kst l0 h0 A0 hF hD
        have k0 : kst = 3 := Nat.le_antisymm h0 l0
        subst k0
        clear l0 h0
        have e5 : a.tmps[5]?.getD undef = _ := (ev a 5).symm.trans (hF 5 (by kernel_rfl))
        clear hF hD
        go_simp
      · refine chain_call (.inr ⟨_, _, _, rfl, Array.mem_of_getElem? (i := 1) rfl, rfl, rfl, fun _ h => h⟩) ⟨_, rfl⟩ (by kernel_rfl) ?_
        intro a W kst l0 h0 A0 hF hD
        have k0 : kst = 3 := Nat.le_antisymm h0 l0
        subst k0
        clear l0 h0
        have e48 : a.tmps[48]?.getD undef = .pointer none := (ev a 48).symm.trans (hD _ (Array.mem_of_getElem? (i := 0) rfl) rfl)
        clear hF hD
        have hu : Upd [] w6 W := A0
        refine ⟨_, _, by (go_simp; first | done | rfl | exact ⟨rfl, rfl⟩), ?_⟩
        refine (Open_nil _).mono ?_
        rintro e w3 ⟨rfl, h3⟩
        exact ⟨_, rfl, rfl, hu.trans h3⟩
      · refine chain_is _ (.inr ⟨_, _, _, rfl, Array.mem_of_getElem? (i := 1) rfl, rfl, rfl, fun _ h => h⟩) ⟨_, rfl⟩ (by kernel_rfl) rfl ?_
        intro a W kst l0 h0 A0 hF hD
        have e49 : a.tmps[49]?.getD undef = .slice none 0 0 := (ev a 49).symm.trans (hD _ (Array.mem_of_getElem? (i := 0) rfl) rfl)
        clear hF hD
        go_simp
      · refine chain_is _ (.inr ⟨_, _, _, rfl, Array.mem_of_getElem? (i := 0) rfl, rfl, rfl, fun _ h => h⟩) ⟨_, rfl⟩ (by kernel_rfl) rfl ?_
        intro a W kst l0 h0 A0 hF hD
        have e6 : a.tmps[6]?.getD undef = _ := (ev a 6).symm.trans (hF 6 (by kernel_rfl))
        clear hF hD
        go_simp
      · refine chain_call (.inr ⟨_, _, _, rfl, Array.mem_of_getElem? (i := 2) rfl, rfl, rfl, fun _ h => h⟩) ⟨_, rfl⟩ (by kernel_rfl) ?_
        intro a W kst l0 h0 A0 hF hD
        have k0 : kst = 4 := Nat.le_antisymm h0 l0
        subst k0
        clear l0 h0
        have e51 : a.tmps[51]?.getD undef = .pointer (some ⟨w1.heap.size, 0, none⟩) := (ev a 51).symm.trans (hD _ (Array.mem_of_getElem? (i := 0) rfl) rfl)
        clear hF hD
        have hu : Upd [] w6 W := A0
        refine ⟨_, _, by (go_simp; first | done | rfl | exact ⟨rfl, rfl⟩), ?_⟩
        refine (Open_zero _ kz rfl _ (HC6.out.upd hu)).mono ?_
        rintro e w3 ⟨rfl, h3⟩
        exact ⟨_, rfl, rfl, hu.trans h3⟩
      · refine chain_is _ (.inr ⟨_, _, _, rfl, Array.mem_of_getElem? (i := 1) rfl, rfl, rfl, fun _ h => h⟩) ⟨_, rfl⟩ (by kernel_rfl) rfl ?_
        intro a W kst l0 h0 A0 hF hD
        have e52 : a.tmps[52]?.getD undef = .slice none 0 0 := (ev a 52).symm.trans (hD _ (Array.mem_of_getElem? (i := 0) rfl) rfl)
        clear hF hD
        go_simp
      · refine chain_is _ (.inr ⟨_, _, _, rfl, Array.mem_of_getElem? (i := 2) rfl, rfl, rfl, fun _ h => h⟩) ⟨_, rfl⟩ (by kernel_rfl) rfl ?_
        intro a W kst l0 h0 A0 hF hD
        have e50 : a.tmps[50]?.getD undef = .int .i64 0 := (ev a 50).symm.trans (hD _ (Array.mem_of_getElem? (i := 0) rfl) rfl)
        have e53 : a.tmps[53]?.getD undef = .int .i64 0 := (ev a 53).symm.trans (hD _ (Array.mem_of_getElem? (i := 1) rfl) rfl)
        clear hF hD
        first | (go_simp; done) | (go_simp; rfl)
      · refine chain_is _ (.inr ⟨_, _, _, rfl, Array.mem_of_getElem? (i := 0) rfl, rfl, rfl, fun _ h => h⟩) ⟨_, rfl⟩ (by kernel_rfl) rfl ?_
        intro a W kst l0 h0 A0 hF hD
        have e5 : a.tmps[5]?.getD undef = _ := (ev a 5).symm.trans (hF 5 (by kernel_rfl))
        clear hF hD
        go_simp
      · refine chain_is _ (.inr ⟨_, _, _, rfl, Array.mem_of_getElem? (i := 0) rfl, rfl, rfl, fun _ h => h⟩) ⟨_, rfl⟩ (by kernel_rfl) rfl ?_
        intro a W kst l0 h0 A0 hF hD
        have e2 : a.tmps[2]?.getD undef = _ := (ev a 2).symm.trans (hF 2 (by kernel_rfl))
        clear hF hD
        have hu : Upd [] w6 W := A0
        have hb := HB6.out.upd hu (by simp)
        have c0 := hb.cell 0
        have c1 := hb.cell 1
        have c2 := hb.cell 2
        have c3 := hb.cell 3
        have c4 := hb.cell 4
        simp at c0 c1 c2 c3 c4
        go_simp
      · refine chain_call (.inr ⟨_, _, _, rfl, Array.mem_of_getElem? (i := 3) rfl, rfl, rfl, fun _ h => h⟩) ⟨_, rfl⟩ (by kernel_rfl) ?_
        intro a W kst l0 h0 A0 hF hD
        have k0 : kst = 5 := Nat.le_antisymm h0 l0
        subst k0
        clear l0 h0
        have e55 : a.tmps[55]?.getD undef = .pointer none := (ev a 55).symm.trans (hD _ (Array.mem_of_getElem? (i := 0) rfl) rfl)
        have e56 : a.tmps[56]?.getD undef = .agg #[.int .i64 t, .int .i64 s, .int .i64 ns, .int .i64 nr, .slice ao n c] := (ev a 56).symm.trans (hD _ (Array.mem_of_getElem? (i := 1) rfl) rfl)
        clear hF hD
        have hu : Upd [] w6 W := A0
        refine ⟨_, _, by (go_simp; first | done | rfl | exact ⟨rfl, rfl⟩), ?_⟩
        refine (Take_nil _ _ _ _ _ _ _ _).mono ?_
        rintro e w3 ⟨rfl, h3⟩
        exact ⟨_, rfl, rfl, hu.trans h3⟩
      · refine chain_is _ (.inr ⟨_, _, _, rfl, Array.mem_of_getElem? (i := 1) rfl, rfl, rfl, fun _ h => h⟩) ⟨_, rfl⟩ (by kernel_rfl) rfl ?_
        intro a W kst l0 h0 A0 hF hD
        have e57 : a.tmps[57]?.getD undef = .slice none 0 0 := (ev a 57).symm.trans (hD _ (Array.mem_of_getElem? (i := 0) rfl) rfl)
        clear hF hD
        go_simp
      · refine chain_is _ (.inr ⟨_, _, _, rfl, Array.mem_of_getElem? (i := 2) rfl, rfl, rfl, fun _ h => h⟩) ⟨_, rfl⟩ (by kernel_rfl) rfl ?_
        intro a W kst l0 h0 A0 hF hD
        have e54 : a.tmps[54]?.getD undef = .int .i64 0 := (ev a 54).symm.trans (hD _ (Array.mem_of_getElem? (i := 0) rfl) rfl)
        have e58 : a.tmps[58]?.getD undef = .int .i64 0 := (ev a 58).symm.trans (hD _ (Array.mem_of_getElem? (i := 1) rfl) rfl)
        clear hF hD
        first | (go_simp; done) | (go_simp; rfl)
      · refine chain_is _ (.inr ⟨_, _, _, rfl, Array.mem_of_getElem? (i := 0) rfl, rfl, rfl, fun _ h => h⟩) ⟨_, rfl⟩ (by kernel_rfl) rfl ?_
        intro a W kst l0 h0 A0 hF hD
        have e6 : a.tmps[6]?.getD undef = _ := (ev a 6).symm.trans (hF 6 (by kernel_rfl))
        clear hF hD
        go_simp
      · refine chain_is _ (.inr ⟨_, _, _, rfl, Array.mem_of_getElem? (i := 0) rfl, rfl, rfl, fun _ h => h⟩) ⟨_, rfl⟩ (by kernel_rfl) rfl ?_
        intro a W kst l0 h0 A0 hF hD
        have e2 : a.tmps[2]?.getD undef = _ := (ev a 2).symm.trans (hF 2 (by kernel_rfl))
        clear hF hD
        have hu : Upd [] w6 W := A0
        have hb := HB6.out.upd hu (by simp)
        have c0 := hb.cell 0
        have c1 := hb.cell 1
        have c2 := hb.cell 2
        have c3 := hb.cell 3
        have c4 := hb.cell 4
        simp at c0 c1 c2 c3 c4
        go_simp
      · refine chain_call (.inr ⟨_, _, _, rfl, Array.mem_of_getElem? (i := 3) rfl, rfl, rfl, fun _ h => h⟩) ⟨_, rfl⟩ (by kernel_rfl) ?_
        intro a W kst l0 h0 A0 hF hD
        have k0 : kst = 6 := Nat.le_antisymm h0 l0
        subst k0
        clear l0 h0
        have e60 : a.tmps[60]?.getD undef = .pointer (some ⟨w1.heap.size, 0, none⟩) := (ev a 60).symm.trans (hD _ (Array.mem_of_getElem? (i := 0) rfl) rfl)
        have e61 : a.tmps[61]?.getD undef = .agg #[.int .i64 t, .int .i64 s, .int .i64 ns, .int .i64 nr, .slice ao n c] := (ev a 61).symm.trans (hD _ (Array.mem_of_getElem? (i := 1) rfl) rfl)
        clear hF hD
        have hu : Upd [] w6 W := A0
        refine ⟨_, _, by (go_simp; first | done | rfl | exact ⟨rfl, rfl⟩), ?_⟩
        refine (Take_zero _ kz rfl _ _ _ _ _ _ _ _ (HC6.out.upd hu)).mono ?_
        rintro e w3 ⟨rfl, h3⟩
        exact ⟨_, rfl, rfl, hu.trans h3⟩
      · refine chain_is _ (.inr ⟨_, _, _, rfl, Array.mem_of_getElem? (i := 1) rfl, rfl, rfl, fun _ h => h⟩) ⟨_, rfl⟩ (by kernel_rfl) rfl ?_
        intro a W kst l0 h0 A0 hF hD
        have e62 : a.tmps[62]?.getD undef = .slice none 0 0 := (ev a 62).symm.trans (hD _ (Array.mem_of_getElem? (i := 0) rfl) rfl)
        clear hF hD
        go_simp
      · refine chain_is _ (.inr ⟨_, _, _, rfl, Array.mem_of_getElem? (i := 2) rfl, rfl, rfl, fun _ h => h⟩) ⟨_, rfl⟩ (by kernel_rfl) rfl ?_
        intro a W kst l0 h0 A0 hF hD
        have e59 : a.tmps[59]?.getD undef = .int .i64 0 := (ev a 59).symm.trans (hD _ (Array.mem_of_getElem? (i := 0) rfl) rfl)
        have e63 : a.tmps[63]?.getD undef = .int .i64 0 := (ev a 63).symm.trans (hD _ (Array.mem_of_getElem? (i := 1) rfl) rfl)
        clear hF hD
        first | (go_simp; done) | (go_simp; rfl)
      · refine chain_is _ (.inr ⟨_, _, _, rfl, Array.mem_of_getElem? (i := 0) rfl, rfl, rfl, fun _ h => h⟩) ⟨_, rfl⟩ (by kernel_rfl) rfl ?_
        intro a W kst l0 h0 A0 hF hD
        have e5 : a.tmps[5]?.getD undef = _ := (ev a 5).symm.trans (hF 5 (by kernel_rfl))
        clear hF hD
        go_simp
      · refine chain_is _ (.inr ⟨_, _, _, rfl, Array.mem_of_getElem? (i := 0) rfl, rfl, rfl, fun _ h => h⟩) ⟨_, rfl⟩ (by kernel_rfl) rfl ?_
        intro a W kst l0 h0 A0 hF hD
        have e1 : a.tmps[1]?.getD undef = _ := (ev a 1).symm.trans (hF 1 (by kernel_rfl))
        clear hF hD
        go_simp
      · refine chain_call (.inr ⟨_, _, _, rfl, Array.mem_of_getElem? (i := 3) rfl, rfl, rfl, fun _ h => h⟩) ⟨_, rfl⟩ (by kernel_rfl) ?_
        intro a W kst l0 h0 A0 hF hD
        have k0 : kst = 7 := Nat.le_antisymm h0 l0
        subst k0
        clear l0 h0
        have e65 : a.tmps[65]?.getD undef = .pointer none := (ev a 65).symm.trans (hD _ (Array.mem_of_getElem? (i := 0) rfl) rfl)
        have e66 : a.tmps[66]?.getD undef = .int .i64 code := (ev a 66).symm.trans (hD _ (Array.mem_of_getElem? (i := 1) rfl) rfl)
        clear hF hD
        have hu : Upd [] w6 W := A0
        refine ⟨_, _, by (go_simp; first | done | rfl | exact ⟨rfl, rfl⟩), ?_⟩
        refine (Close_nil _ _).mono ?_
        rintro e w3 ⟨rfl, h3⟩
        exact ⟨_, rfl, rfl, hu.trans h3⟩
      · refine chain_is _ (.inr ⟨_, _, _, rfl, Array.mem_of_getElem? (i := 1) rfl, rfl, rfl, fun _ h => h⟩) ⟨_, rfl⟩ (by kernel_rfl) rfl ?_
        intro a W kst l0 h0 A0 hF hD
        have e67 : a.tmps[67]?.getD undef = .slice none 0 0 := (ev a 67).symm.trans (hD _ (Array.mem_of_getElem? (i := 0) rfl) rfl)
        clear hF hD
        go_simp
      · refine chain_is _ (.inr ⟨_, _, _, rfl, Array.mem_of_getElem? (i := 2) rfl, rfl, rfl, fun _ h => h⟩) ⟨_, rfl⟩ (by kernel_rfl) rfl ?_
        intro a W kst l0 h0 A0 hF hD
        have e64 : a.tmps[64]?.getD undef = .int .i64 0 := (ev a 64).symm.trans (hD _ (Array.mem_of_getElem? (i := 0) rfl) rfl)
        have e68 : a.tmps[68]?.getD undef = .int .i64 0 := (ev a 68).symm.trans (hD _ (Array.mem_of_getElem? (i := 1) rfl) rfl)
        clear hF hD
        first | (go_simp; done) | (go_simp; rfl)
      · refine chain_is _ (.inr ⟨_, _, _, rfl, Array.mem_of_getElem? (i := 0) rfl, rfl, rfl, fun _ h => h⟩) ⟨_, rfl⟩ (by kernel_rfl) rfl ?_
        intro a W kst l0 h0 A0 hF hD
        have e6 : a.tmps[6]?.getD undef = _ := (ev a 6).symm.trans (hF 6 (by kernel_rfl))
        clear hF hD
        go_simp
      · refine chain_is _ (.inr ⟨_, _, _, rfl, Array.mem_of_getElem? (i := 0) rfl, rfl, rfl, fun _ h => h⟩) ⟨_, rfl⟩ (by kernel_rfl) rfl ?_
        intro a W kst l0 h0 A0 hF hD
        have e1 : a.tmps[1]?.getD undef = _ := (ev a 1).symm.trans (hF 1 (by kernel_rfl))
        clear hF hD
        go_simp
      · refine chain_call (.inr ⟨_, _, _, rfl, Array.mem_of_getElem? (i := 3) rfl, rfl, rfl, fun _ h => h⟩) ⟨_, rfl⟩ (by kernel_rfl) ?_
        intro a W kst l0 h0 A0 hF hD
        have k0 : kst = 8 := Nat.le_antisymm h0 l0
        subst k0
        clear l0 h0
        have e70 : a.tmps[70]?.getD undef = .pointer (some ⟨w1.heap.size, 0, none⟩) := (ev a 70).symm.trans (hD _ (Array.mem_of_getElem? (i := 0) rfl) rfl)
        have e71 : a.tmps[71]?.getD undef = .int .i64 code := (ev a 71).symm.trans (hD _ (Array.mem_of_getElem? (i := 1) rfl) rfl)
        clear hF hD
        have hu : Upd [] w6 W := A0
        refine ⟨_, _, by (go_simp; first | done | rfl | exact ⟨rfl, rfl⟩), ?_⟩
        refine (Close_zero _ kz rfl _ _ (HC6.out.upd hu)).mono ?_
        rintro e w3 ⟨rfl, h3⟩
        exact ⟨_, rfl, rfl, hu.trans h3⟩
      · refine chain_is _ (.inr ⟨_, _, _, rfl, Array.mem_of_getElem? (i := 1) rfl, rfl, rfl, fun _ h => h⟩) ⟨_, rfl⟩ (by kernel_rfl) rfl ?_
        intro a W kst l0 h0 A0 hF hD
        have e72 : a.tmps[72]?.getD undef = .slice none 0 0 := (ev a 72).symm.trans (hD _ (Array.mem_of_getElem? (i := 0) rfl) rfl)
        clear hF hD
        go_simp
      · refine chain_is _ (.inr ⟨_, _, _, rfl, Array.mem_of_getElem? (i := 2) rfl, rfl, rfl, fun _ h => h⟩) ⟨_, rfl⟩ (by kernel_rfl) rfl ?_
        intro a W kst l0 h0 A0 hF hD
        have e69 : a.tmps[69]?.getD undef = .int .i64 0 := (ev a 69).symm.trans (hD _ (Array.mem_of_getElem? (i := 0) rfl) rfl)
        have e73 : a.tmps[73]?.getD undef = .int .i64 0 := (ev a 73).symm.trans (hD _ (Array.mem_of_getElem? (i := 1) rfl) rfl)
        clear hF hD
        first | (go_simp; done) | (go_simp; rfl)
      · refine chain_is _ (.inr ⟨_, _, _, rfl, Array.mem_of_getElem? (i := 0) rfl, rfl, rfl, fun _ h => h⟩) ⟨_, rfl⟩ (by kernel_rfl) rfl ?_
        intro a W kst l0 h0 A0 hF hD
        have e5 : a.tmps[5]?.getD undef = _ := (ev a 5).symm.trans (hF 5 (by kernel_rfl))
        clear hF hD
        go_simp
      · refine chain_call (.inr ⟨_, _, _, rfl, Array.mem_of_getElem? (i := 2) rfl, rfl, rfl, fun _ h => h⟩) ⟨_, rfl⟩ (by kernel_rfl) ?_
        intro a W kst l0 h0 A0 hF hD
        have k0 : kst = 9 := Nat.le_antisymm h0 l0
        subst k0
        clear l0 h0
        have e75 : a.tmps[75]?.getD undef = .pointer none := (ev a 75).symm.trans (hD _ (Array.mem_of_getElem? (i := 0) rfl) rfl)
        clear hF hD
        have hu : Upd [] w6 W := A0
        refine ⟨_, _, by (go_simp; first | done | rfl | exact ⟨rfl, rfl⟩), ?_⟩
        refine (Errors_nil _ _).mono ?_
        rintro e w3 ⟨rfl, h3⟩
        exact ⟨_, rfl, rfl, hu.trans h3⟩
      · refine chain_is _ (.inr ⟨_, _, _, rfl, Array.mem_of_getElem? (i := 1) rfl, rfl, rfl, fun _ h => h⟩) ⟨_, rfl⟩ (by kernel_rfl) rfl ?_
        intro a W kst l0 h0 A0 hF hD
        have e76 : a.tmps[76]?.getD undef = .slice none 0 0 := (ev a 76).symm.trans (hD _ (Array.mem_of_getElem? (i := 0) rfl) rfl)
        clear hF hD
        go_simp
      · refine chain_is _ (.inr ⟨_, _, _, rfl, Array.mem_of_getElem? (i := 2) rfl, rfl, rfl, fun _ h => h⟩) ⟨_, rfl⟩ (by kernel_rfl) rfl ?_
        intro a W kst l0 h0 A0 hF hD
        have e74 : a.tmps[74]?.getD undef = .int .i64 0 := (ev a 74).symm.trans (hD _ (Array.mem_of_getElem? (i := 0) rfl) rfl)
        have e77 : a.tmps[77]?.getD undef = .int .i64 0 := (ev a 77).symm.trans (hD _ (Array.mem_of_getElem? (i := 1) rfl) rfl)
        clear hF hD
        first | (go_simp; done) | (go_simp; rfl)
      · refine chain_is _ (.inr ⟨_, _, _, rfl, Array.mem_of_getElem? (i := 0) rfl, rfl, rfl, fun _ h => h⟩) ⟨_, rfl⟩ (by kernel_rfl) rfl ?_
        intro a W kst l0 h0 A0 hF hD
        have e6 : a.tmps[6]?.getD undef = _ := (ev a 6).symm.trans (hF 6 (by kernel_rfl))
        clear hF hD
        go_simp
      · refine chain_call (.inr ⟨_, _, _, rfl, Array.mem_of_getElem? (i := 2) rfl, rfl, rfl, fun _ h => h⟩) ⟨_, rfl⟩ (by kernel_rfl) ?_
        intro a W kst l0 h0 A0 hF hD
        have k0 : kst = 10 := Nat.le_antisymm h0 l0
        subst k0
        clear l0 h0
        have e79 : a.tmps[79]?.getD undef = .pointer (some ⟨w1.heap.size, 0, none⟩) := (ev a 79).symm.trans (hD _ (Array.mem_of_getElem? (i := 0) rfl) rfl)
        clear hF hD
        have hu : Upd [] w6 W := A0
        refine ⟨_, _, by (go_simp; first | done | rfl | exact ⟨rfl, rfl⟩), ?_⟩
        refine (Map_zero _ kz rfl _ _ (HC6.out.upd hu)).mono ?_
        rintro e w3 ⟨rfl, h3⟩
        exact ⟨_, rfl, rfl, hu.trans h3⟩
      · refine chain_is _ (.inr ⟨_, _, _, rfl, Array.mem_of_getElem? (i := 1) rfl, rfl, rfl, fun _ h => h⟩) ⟨_, rfl⟩ (by kernel_rfl) rfl ?_
        intro a W kst l0 h0 A0 hF hD
        have e80 : a.tmps[80]?.getD undef = .slice none 0 0 := (ev a 80).symm.trans (hD _ (Array.mem_of_getElem? (i := 0) rfl) rfl)
        clear hF hD
        go_simp
      · refine chain_is _ (.inr ⟨_, _, _, rfl, Array.mem_of_getElem? (i := 2) rfl, rfl, rfl, fun _ h => h⟩) ⟨_, rfl⟩ (by kernel_rfl) rfl ?_
        intro a W kst l0 h0 A0 hF hD
        have e78 : a.tmps[78]?.getD undef = .int .i64 0 := (ev a 78).symm.trans (hD _ (Array.mem_of_getElem? (i := 0) rfl) rfl)
        have e81 : a.tmps[81]?.getD undef = .int .i64 0 := (ev a 81).symm.trans (hD _ (Array.mem_of_getElem? (i := 1) rfl) rfl)
        clear hF hD
        first | (go_simp; done) | (go_simp; rfl)
      · refine chain_is _ (.inr ⟨_, _, _, rfl, Array.mem_of_getElem? (i := 0) rfl, rfl, rfl, fun _ h => h⟩) ⟨_, rfl⟩ (by kernel_rfl) rfl ?_
        intro a W kst l0 h0 A0 hF hD
        have e5 : a.tmps[5]?.getD undef = _ := (ev a 5).symm.trans (hF 5 (by kernel_rfl))
        clear hF hD
        go_simp
      · refine chain_call (.inr ⟨_, _, _, rfl, Array.mem_of_getElem? (i := 2) rfl, rfl, rfl, fun _ h => h⟩) ⟨_, rfl⟩ (by kernel_rfl) ?_
        intro a W kst l0 h0 A0 hF hD
        have k0 : kst = 11 := Nat.le_antisymm h0 l0
        subst k0
        clear l0 h0
        have e83 : a.tmps[83]?.getD undef = .pointer none := (ev a 83).symm.trans (hD _ (Array.mem_of_getElem? (i := 0) rfl) rfl)
        clear hF hD
        have hu : Upd [] w6 W := A0
        refine ⟨_, _, by (go_simp; first | done | rfl | exact ⟨rfl, rfl⟩), ?_⟩
        refine (Got_nil _).mono ?_
        rintro e w3 ⟨rfl, h3⟩
        exact ⟨_, rfl, rfl, hu.trans h3⟩
      · refine chain_is _ (.inr ⟨_, _, _, rfl, Array.mem_of_getElem? (i := 1) rfl, rfl, rfl, fun _ h => h⟩) ⟨_, rfl⟩ (by kernel_rfl) rfl ?_
        intro a W kst l0 h0 A0 hF hD
        have e84 : a.tmps[84]?.getD undef = .slice none 0 0 := (ev a 84).symm.trans (hD _ (Array.mem_of_getElem? (i := 0) rfl) rfl)
        clear hF hD
        go_simp
      · refine chain_is _ (.inr ⟨_, _, _, rfl, Array.mem_of_getElem? (i := 2) rfl, rfl, rfl, fun _ h => h⟩) ⟨_, rfl⟩ (by kernel_rfl) rfl ?_
        intro a W kst l0 h0 A0 hF hD
        have e82 : a.tmps[82]?.getD undef = .int .i64 0 := (ev a 82).symm.trans (hD _ (Array.mem_of_getElem? (i := 0) rfl) rfl)
        have e85 : a.tmps[85]?.getD undef = .int .i64 0 := (ev a 85).symm.trans (hD _ (Array.mem_of_getElem? (i := 1) rfl) rfl)
        clear hF hD
        first | (go_simp; done) | (go_simp; rfl)
      · refine chain_is _ (.inr ⟨_, _, _, rfl, Array.mem_of_getElem? (i := 0) rfl, rfl, rfl, fun _ h => h⟩) ⟨_, rfl⟩ (by kernel_rfl) rfl ?_
        intro a W kst l0 h0 A0 hF hD
        have e6 : a.tmps[6]?.getD undef = _ := (ev a 6).symm.trans (hF 6 (by kernel_rfl))
        clear hF hD
        go_simp
      · refine chain_call (.inr ⟨_, _, _, rfl, Array.mem_of_getElem? (i := 2) rfl, rfl, rfl, fun _ h => h⟩) ⟨_, rfl⟩ (by kernel_rfl) ?_
        intro a W kst l0 h0 A0 hF hD
        have k0 : kst = 12 := Nat.le_antisymm h0 l0
        subst k0
        clear l0 h0
        have e87 : a.tmps[87]?.getD undef = .pointer (some ⟨w1.heap.size, 0, none⟩) := (ev a 87).symm.trans (hD _ (Array.mem_of_getElem? (i := 0) rfl) rfl)
        clear hF hD
        have hu : Upd [] w6 W := A0
        refine ⟨_, _, by (go_simp; first | done | rfl | exact ⟨rfl, rfl⟩), ?_⟩
        refine (Got_zero _ kz rfl _ (HC6.out.upd hu)).mono ?_
        rintro e w3 ⟨rfl, h3⟩
        exact ⟨_, rfl, rfl, hu.trans h3⟩
      · refine chain_is _ (.inr ⟨_, _, _, rfl, Array.mem_of_getElem? (i := 1) rfl, rfl, rfl, fun _ h => h⟩) ⟨_, rfl⟩ (by kernel_rfl) rfl ?_
        intro a W kst l0 h0 A0 hF hD
        have k0 : kst = 13 := Nat.le_antisymm h0 l0
        subst k0
        clear l0 h0
        have e88 : a.tmps[88]?.getD undef = .slice none 0 0 := (ev a 88).symm.trans (hD _ (Array.mem_of_getElem? (i := 0) rfl) rfl)
        clear hF hD
        go_simp
      · refine chain_is _ (.inr ⟨_, _, _, rfl, Array.mem_of_getElem? (i := 2) rfl, rfl, rfl, fun _ h => h⟩) ⟨_, rfl⟩ (by kernel_rfl) rfl ?_
        intro a W kst l0 h0 A0 hF hD
        have k0 : kst = 13 := Nat.le_antisymm h0 l0
        subst k0
        clear l0 h0
        have e86 : a.tmps[86]?.getD undef = .int .i64 0 := (ev a 86).symm.trans (hD _ (Array.mem_of_getElem? (i := 0) rfl) rfl)
        have e89 : a.tmps[89]?.getD undef = .int .i64 0 := (ev a 89).symm.trans (hD _ (Array.mem_of_getElem? (i := 1) rfl) rfl)
        clear hF hD
        first | (go_simp; done) | (go_simp; rfl)
      · refine chain_is _ (.inr ⟨_, _, _, rfl, Array.mem_of_getElem? (i := 0) rfl, rfl, rfl, fun _ h => h⟩) ⟨_, rfl⟩ (by kernel_rfl) rfl ?_
        intro a W kst l0 h0 A0 hF hD
        have e7 : a.tmps[7]?.getD undef = _ := (ev a 7).symm.trans (hF 7 (by kernel_rfl))
        clear hF hD
        go_simp
      · refine chain_is _ (.inr ⟨_, _, _, rfl, Array.mem_of_getElem? (i := 2) rfl, rfl, rfl, fun _ h => h⟩) ⟨_, rfl⟩ (by kernel_rfl) rfl ?_
        intro a W kst l0 h0 A0 hF hD
        have k0 : kst = 13 := Nat.le_antisymm h0 l0
        subst k0
        clear l0 h0
        have e90 : a.tmps[90]?.getD undef = .int .i64 0 := (ev a 90).symm.trans (hD _ (Array.mem_of_getElem? (i := 0) rfl) rfl)
        have e91 : a.tmps[91]?.getD undef = .int .i64 0 := (ev a 91).symm.trans (hD _ (Array.mem_of_getElem? (i := 1) rfl) rfl)
        clear hF hD
        first | (go_simp; done) | (go_simp; rfl)
      · refine chain_is _ (.inr ⟨_, _, _, rfl, Array.mem_of_getElem? (i := 0) rfl, rfl, rfl, fun _ h => h⟩) ⟨_, rfl⟩ (by kernel_rfl) rfl ?_
        intro a W kst l0 h0 A0 hF hD
        have e8 : a.tmps[8]?.getD undef = _ := (ev a 8).symm.trans (hF 8 (by kernel_rfl))
        clear hF hD
        go_simp
      · refine chain_is _ (.inr ⟨_, _, _, rfl, Array.mem_of_getElem? (i := 2) rfl, rfl, rfl, fun _ h => h⟩) ⟨_, rfl⟩ (by kernel_rfl) rfl ?_
        intro a W kst l0 h0 A0 hF hD
        have k0 : kst = 13 := Nat.le_antisymm h0 l0
        subst k0
        clear l0 h0
        have e92 : a.tmps[92]?.getD undef = .int .i64 0 := (ev a 92).symm.trans (hD _ (Array.mem_of_getElem? (i := 0) rfl) rfl)
        have e93 : a.tmps[93]?.getD undef = .int .i64 0 := (ev a 93).symm.trans (hD _ (Array.mem_of_getElem? (i := 1) rfl) rfl)
        clear hF hD
        first | (go_simp; done) | (go_simp; rfl)
      · refine chain_is _ (.inr ⟨_, _, _, rfl, Array.mem_of_getElem? (i := 0) rfl, rfl, rfl, fun _ h => h⟩) ⟨_, rfl⟩ (by kernel_rfl) rfl ?_
        intro a W kst l0 h0 A0 hF hD
        have e9 : a.tmps[9]?.getD undef = _ := (ev a 9).symm.trans (hF 9 (by kernel_rfl))
        clear hF hD
        go_simp
      · refine chain_is _ (.inr ⟨_, _, _, rfl, Array.mem_of_getElem? (i := 2) rfl, rfl, rfl, fun _ h => h⟩) ⟨_, rfl⟩ (by kernel_rfl) rfl ?_
        intro a W kst l0 h0 A0 hF hD
        have k0 : kst = 13 := Nat.le_antisymm h0 l0
        subst k0
        clear l0 h0
        have e94 : a.tmps[94]?.getD undef = .int .i64 0 := (ev a 94).symm.trans (hD _ (Array.mem_of_getElem? (i := 0) rfl) rfl)
        have e95 : a.tmps[95]?.getD undef = .int .i64 0 := (ev a 95).symm.trans (hD _ (Array.mem_of_getElem? (i := 1) rfl) rfl)
        clear hF hD
        first | (go_simp; done) | (go_simp; rfl)
      · refine chain_is _ (.inr ⟨_, _, _, rfl, Array.mem_of_getElem? (i := 0) rfl, rfl, rfl, fun _ h => h⟩) ⟨_, rfl⟩ (by kernel_rfl) rfl ?_
        intro a W kst l0 h0 A0 hF hD
        have e10 : a.tmps[10]?.getD undef = _ := (ev a 10).symm.trans (hF 10 (by kernel_rfl))
        clear hF hD
        go_simp
      · refine chain_is _ (.inr ⟨_, _, _, rfl, Array.mem_of_getElem? (i := 2) rfl, rfl, rfl, fun _ h => h⟩) ⟨_, rfl⟩ (by kernel_rfl) rfl ?_
        intro a W kst l0 h0 A0 hF hD
        have k0 : kst = 13 := Nat.le_antisymm h0 l0
        subst k0
        clear l0 h0
        have e96 : a.tmps[96]?.getD undef = .int .i64 0 := (ev a 96).symm.trans (hD _ (Array.mem_of_getElem? (i := 0) rfl) rfl)
        have e97 : a.tmps[97]?.getD undef = .int .i64 0 := (ev a 97).symm.trans (hD _ (Array.mem_of_getElem? (i := 1) rfl) rfl)
        clear hF hD
        first | (go_simp; done) | (go_simp; rfl)
      · refine chain_is _ (.inr ⟨_, _, _, rfl, Array.mem_of_getElem? (i := 1) rfl, rfl, rfl, fun _ h => h⟩) ⟨_, rfl⟩ (by kernel_rfl) rfl ?_
        intro a W kst l0 h0 A0 hF hD
        have k0 : kst = 13 := Nat.le_antisymm h0 l0
        subst k0
        clear l0 h0
        have e98 : a.tmps[98]?.getD undef = .int .i64 0 := (ev a 98).symm.trans (hD _ (Array.mem_of_getElem? (i := 0) rfl) rfl)
        clear hF hD
        go_simp
      · refine chain_is _ (.inl rfl) ⟨_, rfl⟩ (by kernel_rfl) rfl ?_
        intro a W kst l0 h0 A0 hF hD
        have k0 : kst = 13 := Nat.le_antisymm h0 l0
        subst k0
        clear l0 h0
        have e47 : a.tmps[47]?.getD undef = .bool true := (ev a 47).symm.trans (hD _ (Array.mem_of_getElem? (i := 0) rfl) rfl)
        have e99 : a.tmps[99]?.getD undef = .bool true := (ev a 99).symm.trans (hD _ (Array.mem_of_getElem? (i := 1) rfl) rfl)
        clear hF hD
        go_simp
      · refine chain_is _ (.inl rfl) ⟨_, rfl⟩ (by kernel_rfl) rfl ?_
        intro a W kst l0 h0 A0 hF hD
        have k0 : kst = 13 := Nat.le_antisymm h0 l0
        subst k0
        clear l0 h0
        have e100 : a.tmps[100]?.getD undef = .bool true := (ev a 100).symm.trans (hD _ (Array.mem_of_getElem? (i := 0) rfl) rfl)
        clear hF hD
        go_simp
    intro vals W hv hA
    have v0 : vals 0 = .bool true := hv 0 (by decide)
    have v1 : vals 1 = .bool true := hv 1 (by decide)
    have v2 : vals 2 = .pointer none := hv 2 (by decide)
    have v3 : vals 3 = .int .i64 4 := hv 3 (by decide)
    have v4 : vals 4 = .bool true := hv 4 (by decide)
    have v5 : vals 5 = .bool true := hv 5 (by decide)
    have v6 : vals 6 = .bool true := hv 6 (by decide)
    have v7 : vals 7 = .pointer (some ⟨w1.heap.size, 0, none⟩) := hv 7 (by decide)
    have v8 : vals 8 = .int .i64 4 := hv 8 (by decide)
    have v9 : vals 9 = .bool true := hv 9 (by decide)
    have v10 : vals 10 = .bool true := hv 10 (by decide)
    have v11 : vals 11 = .bool true := hv 11 (by decide)
    have v12 : vals 12 = .pointer none := hv 12 (by decide)
    have v13 : vals 13 = .slice none 0 0 := hv 13 (by decide)
    have v14 : vals 14 = .int .i64 0 := hv 14 (by decide)
    have v15 : vals 15 = .pointer (some ⟨w1.heap.size, 0, none⟩) := hv 15 (by decide)
    have v16 : vals 16 = .slice none 0 0 := hv 16 (by decide)
    have v17 : vals 17 = .int .i64 0 := hv 17 (by decide)
    have v18 : vals 18 = .int .i64 0 := hv 18 (by decide)
    have v19 : vals 19 = .pointer none := hv 19 (by decide)
    have v20 : vals 20 = .agg #[.int .i64 t, .int .i64 s, .int .i64 ns, .int .i64 nr, .slice ao n c] := hv 20 (by decide)
    have v21 : vals 21 = .slice none 0 0 := hv 21 (by decide)
    have v22 : vals 22 = .int .i64 0 := hv 22 (by decide)
    have v23 : vals 23 = .int .i64 0 := hv 23 (by decide)
    have v24 : vals 24 = .pointer (some ⟨w1.heap.size, 0, none⟩) := hv 24 (by decide)
    have v25 : vals 25 = .agg #[.int .i64 t, .int .i64 s, .int .i64 ns, .int .i64 nr, .slice ao n c] := hv 25 (by decide)
    have v26 : vals 26 = .slice none 0 0 := hv 26 (by decide)
    have v27 : vals 27 = .int .i64 0 := hv 27 (by decide)
    have v28 : vals 28 = .int .i64 0 := hv 28 (by decide)
    have v29 : vals 29 = .pointer none := hv 29 (by decide)
    have v30 : vals 30 = .int .i64 code := hv 30 (by decide)
    have v31 : vals 31 = .slice none 0 0 := hv 31 (by decide)
    have v32 : vals 32 = .int .i64 0 := hv 32 (by decide)
    have v33 : vals 33 = .int .i64 0 := hv 33 (by decide)
    have v34 : vals 34 = .pointer (some ⟨w1.heap.size, 0, none⟩) := hv 34 (by decide)
    have v35 : vals 35 = .int .i64 code := hv 35 (by decide)
    have v36 : vals 36 = .slice none 0 0 := hv 36 (by decide)
    have v37 : vals 37 = .int .i64 0 := hv 37 (by decide)
    have v38 : vals 38 = .int .i64 0 := hv 38 (by decide)
    have v39 : vals 39 = .pointer none := hv 39 (by decide)
    have v40 : vals 40 = .slice none 0 0 := hv 40 (by decide)
    have v41 : vals 41 = .int .i64 0 := hv 41 (by decide)
    have v42 : vals 42 = .int .i64 0 := hv 42 (by decide)
    have v43 : vals 43 = .pointer (some ⟨w1.heap.size, 0, none⟩) := hv 43 (by decide)
    have v44 : vals 44 = .slice none 0 0 := hv 44 (by decide)
    have v45 : vals 45 = .int .i64 0 := hv 45 (by decide)
    have v46 : vals 46 = .int .i64 0 := hv 46 (by decide)
    have v47 : vals 47 = .pointer none := hv 47 (by decide)
    have v48 : vals 48 = .slice none 0 0 := hv 48 (by decide)
    have v49 : vals 49 = .int .i64 0 := hv 49 (by decide)
    have v50 : vals 50 = .int .i64 0 := hv 50 (by decide)
    have v51 : vals 51 = .pointer (some ⟨w1.heap.size, 0, none⟩) := hv 51 (by decide)
    have v52 : vals 52 = .slice none 0 0 := hv 52 (by decide)
    have v53 : vals 53 = .int .i64 0 := hv 53 (by decide)
    have v54 : vals 54 = .int .i64 0 := hv 54 (by decide)
    have v55 : vals 55 = .int .i64 0 := hv 55 (by decide)
    have v56 : vals 56 = .int .i64 0 := hv 56 (by decide)
    have v57 : vals 57 = .int .i64 0 := hv 57 (by decide)
    have v58 : vals 58 = .int .i64 0 := hv 58 (by decide)
    have v59 : vals 59 = .int .i64 0 := hv 59 (by decide)
    have v60 : vals 60 = .int .i64 0 := hv 60 (by decide)
    have v61 : vals 61 = .int .i64 0 := hv 61 (by decide)
    have v62 : vals 62 = .int .i64 0 := hv 62 (by decide)
    have v63 : vals 63 = .bool true := hv 63 (by decide)
    have v64 : vals 64 = .bool true := hv 64 (by decide)
    have v65 : vals 65 = .bool true := hv 65 (by decide)
    clear hv
    have hu : Upd [] w6 W := hA
    simp only [putAll, Act.put, Nat.zero_add, Nat.reduceAdd, List.append_eq, List.cons_append, List.nil_append, v0, v1, v2, v3, v4, v5, v6, v7, v8, v9, v10, v11, v12, v13, v14, v15, v16, v17, v18, v19, v20, v21, v22, v23, v24, v25, v26, v27, v28, v29, v30, v31, v32, v33, v34, v35, v36, v37, v38, v39, v40, v41, v42, v43, v44, v45, v46, v47, v48, v49, v50, v51, v52, v53, v54, v55, v56, v57, v58, v59, v60, v61, v62, v63, v64, v65, List.setIfInBounds_toArray, List.set_cons_zero, List.set_cons_succ]
    clear v0 v1 v2 v3 v4 v5 v6 v7 v8 v9 v10 v11 v12 v13 v14 v15 v16 v17 v18 v19 v20 v21 v22 v23 v24 v25 v26 v27 v28 v29 v30 v31 v32 v33 v34 v35 v36 v37 v38 v39 v40 v41 v42 v43 v44 v45 v46 v47 v48 v49 v50 v51 v52 v53 v54 v55 v56 v57 v58 v59 v60 v61 v62 v63 v64 v65
    go_wp2_with fail
    go_ret
    exact ⟨rfl, HU6.out.trans hu⟩
theorem callNone_walk {H : Type} {enc : TypeId × Value → H} {v0 : Value} {d0 d1 : DataW H} {p0 : List MemPlace} {W : World} {base : Nat}
    (h0 : DataW.Trod enc Try.prog W 0 (fun _ => true) true 33 v0 d0 p0) (o0 : Value.okWide Try.prog W .any base 33 v0) (code : Int) (_ : (Lit.int .i64 code).wf = true)
    (sz : (DataW.weightsEach Try.prog [33, 3] [d0, d1]).all (· ≤ reachBytes) = true) :
    Calls Try.prog 7 #[v0, .int .i64 code] W fun e w' => e = .returned (.bool true) ∧ Below W.heap.size W w' := by
  obtain ⟨t, s, ns, nr, u, l, rfl, hl, hls⟩ := ctl_in h0 o0 (wt_each sz (j := 0) rfl rfl)
  exact (callNone_any t s ns nr code u l W hl hls).mono fun e w' ⟨he, hu⟩ => ⟨he, hu.below⟩
end Go.Proofs.Ytihedbaomingpaa
