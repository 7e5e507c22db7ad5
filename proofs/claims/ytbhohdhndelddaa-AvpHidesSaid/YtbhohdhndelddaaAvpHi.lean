/- The walk of AvpHides. -/
import Derived.Test.YtbhohdhndelddaaAvpHP
import Derived.Test.YtbhohdhndelddaaAvpL
namespace Go.Proofs.Ytbhohdhndelddaa
open Go.RowKit
set_option linter.unusedSimpArgs false
set_option linter.unusedVariables false
set_option maxRecDepth 100000

theorem avs_sh {w : World} {v : Value} {l : List Av} {own : List Nat} (h : Own w 33 5 v l.length (avCells l) own) : ∃ ao cap, v = .slice ao l.length cap ∧ AvsAt w (.slice ao l.length cap) l := by
  have h2 := AvsAt.of_own h
  obtain ⟨ao, cap, rfl, -⟩ := id h2
  exact ⟨ao, cap, rfl, h2⟩
set_option maxHeartbeats 16000000 in
theorem avpHides_any (kind : Int) (value vector secret other : ByteArray) (hb : (value.size ≤ 140737488355328 ∧ vector.size ≤ 140737488355328) ∧ secret.size ≤ 140737488355328 ∧ other.size ≤ 140737488355328) (w : World) :
    Calls Try.prog 4 #[.int .i64 kind, .string value, .string vector, .string secret, .string other] w fun e w' => e = .returned (.bool true) ∧ Upd [] w w' := by
  obtain ⟨⟨hb1, hb2⟩, hb3, hb4⟩ := hb
  by_cases t0 : 200 < value.size
  · have t0' : (200 : Int) < value.size := by omega
    go_enter Try.func4, Try.ntmps4
    go_wp2_with fail
    refine (alive18_any _).mono ?_
    rintro e w2 ⟨rfl, hu2⟩
    go_wp2_with fail
    go_ret
    exact ⟨rfl, hu2⟩
  have t0' : ¬ (200 : Int) < value.size := by omega
  by_cases t1 : 200 < vector.size
  · have t1' : (200 : Int) < vector.size := by omega
    go_enter Try.func4, Try.ntmps4
    go_wp2_with fail
    refine (alive18_any _).mono ?_
    rintro e w2 ⟨rfl, hu2⟩
    go_wp2_with fail
    go_ret
    exact ⟨rfl, hu2⟩
  have t1' : ¬ (200 : Int) < vector.size := by omega
  by_cases t2 : 200 < secret.size
  · have t2' : (200 : Int) < secret.size := by omega
    go_enter Try.func4, Try.ntmps4
    go_wp2_with fail
    refine (alive18_any _).mono ?_
    rintro e w2 ⟨rfl, hu2⟩
    go_wp2_with fail
    go_ret
    exact ⟨rfl, hu2⟩
  have t2' : ¬ (200 : Int) < secret.size := by omega
  by_cases t3 : 200 < other.size
  · have t3' : (200 : Int) < other.size := by omega
    go_enter Try.func4, Try.ntmps4
    go_wp2_with fail
    refine (alive18_any _).mono ?_
    rintro e w2 ⟨rfl, hu2⟩
    go_wp2_with fail
    go_ret
    exact ⟨rfl, hu2⟩
  have t3' : ¬ (200 : Int) < other.size := by omega
  by_cases t4 : secret.size = 0
  · have e0 := str_empty_t t4
    clear t4
    go_enter Try.func4, Try.ntmps4
    go_wp2_with fail
    refine (alive18_any _).mono ?_
    rintro e w2 ⟨rfl, hu2⟩
    go_wp2_with fail
    go_ret
    exact ⟨rfl, hu2⟩
  have e0 := str_empty_f t4
  by_cases t5 : kind < 0
  · go_enter Try.func4, Try.ntmps4
    go_wp2_with fail
    refine (alive18_any _).mono ?_
    rintro e w2 ⟨rfl, hu2⟩
    go_wp2_with fail
    go_ret
    exact ⟨rfl, hu2⟩
  by_cases t6 : 65535 < kind
  · go_enter Try.func4, Try.ntmps4
    go_wp2_with fail
    refine (alive18_any _).mono ?_
    rintro e w2 ⟨rfl, hu2⟩
    go_wp2_with fail
    go_ret
    exact ⟨rfl, hu2⟩
  by_cases t7 : kind = 36
  · have t7' : (kind == 36) = true := by simpa using t7
    go_enter Try.func4, Try.ntmps4
    go_wp2_with fail
    refine (alive18_any _).mono ?_
    rintro e w2 ⟨rfl, hu2⟩
    go_wp2_with fail
    go_ret
    exact ⟨rfl, hu2⟩
  have t7' : (kind == 36) = false := by simpa using t7
  have hv : value.size ≤ 200 := by omega
  have hw : vector.size ≤ 200 := by omega
  have hk : 0 ≤ kind ∧ kind ≤ 65535 := by omega
  obtain ⟨S, hS⟩ : ∃ S, hdB kind value vector secret = S := ⟨_, rfl⟩
  have hSz : S.size = 14 + vector.size + value.size := by rw [← hS, hdB_size]
  have AB : ∀ W : World, AvsAt (W.alloc (Obj.cells #[.bool true, .bool false, .int .i64 0, .int .i64 36, .string vector, .bool true, .bool true, .int .i64 0, .int .i64 kind, .string value] 33)) (.slice (some ⟨W.heap.size, 0, none⟩) 2 2) [hdV vector, hdH kind value] :=
    fun W => AvsAt.of_blk (l := [hdV vector, hdH kind value]) (Blk.new W 33 _) (by simp [maxLen])
  have BA : ∀ W : World, AvsAt (W.alloc (Obj.cells #[.bool true, .bool true, .int .i64 0, .int .i64 kind, .string value, .bool true, .bool false, .int .i64 0, .int .i64 36, .string vector] 33)) (.slice (some ⟨W.heap.size, 0, none⟩) 2 2) [hdH kind value, hdV vector] :=
    fun W => AvsAt.of_blk (l := [hdH kind value, hdV vector]) (Blk.new W 33 _) (by simp [maxLen])
  have P1 := fun W => avpPut_any [hdV vector, hdH kind value] _ secret _ (AB W) (by omega)
  rw [hd_put hv hw hk t4, hS] at P1
  have P2 := fun W => avpPut_any [hdV vector, hdH kind value] _ ⟨#[]⟩ _ (AB W) (by decide)
  rw [hd_put0 hv hw hk] at P2
  have P3 := fun W => avpPut_any [hdH kind value, hdV vector] _ secret _ (BA W) (by omega)
  rw [hd_putR hv hk t4] at P3
  have G1 := fun W => avpGet_any S ⟨#[]⟩ W (by omega) (by decide)
  rw [← hS, hd_get ⟨#[]⟩ hv hw hk, hd_shown0, if_pos (by decide), hS] at G1
  dsimp only at P1 P2 P3 G1
  have G2 := fun W => avpGet_any S other W (by omega) (by omega)
  have hG : getA S other = if (shownA kind (maskB false kind secret vector (be 2 value.size ++ value)) other [hdV vector]).2 ≠ 0 then ([], (shownA kind (maskB false kind secret vector (be 2 value.size ++ value)) other [hdV vector]).2)
      else ([hdV vector, hdH kind (shownA kind (maskB false kind secret vector (be 2 value.size ++ value)) other [hdV vector]).1], 0) := by rw [← hS]; exact hd_get other hv hw hk
  replace P1 := Lib.hid P1
  replace P2 := Lib.hid P2
  replace P3 := Lib.hid P3
  replace G1 := Lib.hid G1
  have HAB := Lib.hid AB
  have HS := Lib.hid hS
  have HT := Lib.hid t4
  clear AB BA hS t4
  have hSi : (S.size : Int) = 14 + vector.size + value.size := by omega
  clear hSz
  by_cases t8 : other.size = 0
  · have e1 := str_empty_t t8
    have h8 : (shownA kind (maskB false kind secret vector (be 2 value.size ++ value)) other [hdV vector]) = (⟨#[]⟩, 30) := by unfold shownA; rw [if_pos t8]
    rw [h8, if_pos (by decide)] at hG
    rw [hG] at G2
    dsimp only at G2
    replace G2 := Lib.hid G2
    clear hG h8 t8
    go_enter Try.func4, Try.ntmps4
    go_wp2_with fail
    have A0 := (Blk.new w 33 #[.bool true, .bool false, .int .i64 0, .int .i64 36, .string vector]).alloc (Obj.cells #[.bool true, .bool true, .int .i64 0, .int .i64 kind, .string value] 33)
    have A1 := Blk.new (w.alloc (Obj.cells #[.bool true, .bool false, .int .i64 0, .int .i64 36, .string vector] 33)) 33 #[.bool true, .bool true, .int .i64 0, .int .i64 kind, .string value]
    rw [World.size_alloc] at A1
    have U1 := (((Upd.refl [] w).alloc (Obj.cells #[.bool true, .bool false, .int .i64 0, .int .i64 36, .string vector] 33)).alloc (Obj.cells #[.bool true, .bool true, .int .i64 0, .int .i64 kind, .string value] 33))
    have HA0 := Lib.hid (A0.alloc (Obj.cells #[.bool true, .bool false, .int .i64 0, .int .i64 36, .string vector, .bool true, .bool true, .int .i64 0, .int .i64 kind, .string value] 33))
    have HA1 := Lib.hid (A1.alloc (Obj.cells #[.bool true, .bool false, .int .i64 0, .int .i64 36, .string vector, .bool true, .bool true, .int .i64 0, .int .i64 kind, .string value] 33))
    have HU1 := Lib.hid (U1.alloc (Obj.cells #[.bool true, .bool false, .int .i64 0, .int .i64 36, .string vector, .bool true, .bool true, .int .i64 0, .int .i64 kind, .string value] 33))
    have hsz : ((w.alloc (Obj.cells #[.bool true, .bool false, .int .i64 0, .int .i64 36, .string vector] 33)).alloc (Obj.cells #[.bool true, .bool true, .int .i64 0, .int .i64 kind, .string value] 33)).heap.size = w.heap.size + 1 + 1 := by simp
    have p1 := P1.out ((w.alloc (Obj.cells #[.bool true, .bool false, .int .i64 0, .int .i64 36, .string vector] 33)).alloc (Obj.cells #[.bool true, .bool true, .int .i64 0, .int .i64 kind, .string value] 33))
    rw [hsz] at p1
    clear A0 A1 U1
    refine p1.mono ?_
    clear p1 hsz
    rintro e w1 ⟨rfl, hu1⟩
    have xA := HA0.out.upd hu1 (by simp)
    have xB := HA1.out.upd hu1 (by simp)
    have xa0 := xA.cell 0
    have xa1 := xA.cell 1
    have xa2 := xA.cell 2
    have xa3 := xA.cell 3
    have xa4 := xA.cell 4
    have xb0 := xB.cell 0
    have xb1 := xB.cell 1
    have xb2 := xB.cell 2
    have xb3 := xB.cell 3
    have xb4 := xB.cell 4
    simp only [List.size_toArray, List.length_cons, List.length_nil, List.getElem?_toArray, List.getElem?_cons_zero, List.getElem?_cons_succ] at xa0 xa1 xa2 xa3 xa4 xb0 xb1 xb2 xb3 xb4
    have HX := Lib.hid (And.intro xA xB)
    have HU2 := Lib.hid (HU1.out.trans hu1)
    clear hu1 HA0 HA1 HU1
    go_wp2_with fail
    clear xA xB xa0 xa1 xa2 xa3 xa4 xb0 xb1 xb2 xb3 xb4
    refine (P2.out _).mono ?_
    rintro e w2 ⟨rfl, hu2⟩
    have HY := Lib.hid (And.intro ((HX.out.1.alloc (Obj.cells #[.bool true, .bool false, .int .i64 0, .int .i64 36, .string vector, .bool true, .bool true, .int .i64 0, .int .i64 kind, .string value] 33)).upd hu2 (by simp)) ((HX.out.2.alloc (Obj.cells #[.bool true, .bool false, .int .i64 0, .int .i64 36, .string vector, .bool true, .bool true, .int .i64 0, .int .i64 kind, .string value] 33)).upd hu2 (by simp)))
    have HU3 := Lib.hid ((HU2.out.alloc _).trans hu2)
    clear hu2 HX HU2
    go_wp2_with fail
    refine (G1.out _).mono ?_
    rintro e w3 ⟨v3, o3, rfl, -, -, hu3⟩
    have HU4 := Lib.hid (HU3.out.trans hu3)
    have yA := HY.out.1.upd hu3 (by simp)
    have yB := HY.out.2.upd hu3 (by simp)
    have ya0 := yA.cell 0
    have ya1 := yA.cell 1
    have ya2 := yA.cell 2
    have ya3 := yA.cell 3
    have ya4 := yA.cell 4
    have yb0 := yB.cell 0
    have yb1 := yB.cell 1
    have yb2 := yB.cell 2
    have yb3 := yB.cell 3
    have yb4 := yB.cell 4
    simp only [List.size_toArray, List.length_cons, List.length_nil, List.getElem?_toArray, List.getElem?_cons_zero, List.getElem?_cons_succ] at ya0 ya1 ya2 ya3 ya4 yb0 yb1 yb2 yb3 yb4
    have HZ := Lib.hid (And.intro yA yB)
    clear hu3 HU3 HY
    go_wp2_with fail
    clear yA yB ya0 ya1 ya2 ya3 ya4 yb0 yb1 yb2 yb3 yb4
    refine (P3.out _).mono ?_
    rintro e w4 ⟨rfl, hu4⟩
    have HQ := Lib.hid (And.intro ((HZ.out.1.alloc (Obj.cells #[.bool true, .bool true, .int .i64 0, .int .i64 kind, .string value, .bool true, .bool false, .int .i64 0, .int .i64 36, .string vector] 33)).upd hu4 (by simp)) ((HZ.out.2.alloc (Obj.cells #[.bool true, .bool true, .int .i64 0, .int .i64 kind, .string value, .bool true, .bool false, .int .i64 0, .int .i64 36, .string vector] 33)).upd hu4 (by simp)))
    have HU5 := Lib.hid ((HU4.out.alloc _).trans hu4)
    clear hu4 HZ HU4
    go_wp2_with fail
    refine (G2.out _).mono ?_
    rintro e w5 ⟨v5, o5, rfl, -, -, hu5⟩
    have HU6 := Lib.hid (HU5.out.trans hu5)
    clear hu5
    go_wp2_with fail
    refine (alive18_any _).mono ?_
    rintro e w6 ⟨rfl, hu6⟩
    go_wp2_with fail
    go_ret
    exact ⟨rfl, HU6.out.trans hu6⟩
  have e1 := str_empty_f t8
  have h8 := @hd_shown kind value vector secret other t8
  generalize shownA kind (maskB false kind secret vector (be 2 value.size ++ value)) other [hdV vector] = sh at hG h8
  by_cases t9 : num (hdX kind value vector secret other) 0 2 = value.size
  rotate_left
  · rw [if_pos t9] at h8
    subst h8
    rw [if_pos (by decide)] at hG
    rw [hG] at G2
    dsimp only at G2
    replace G2 := Lib.hid G2
    clear hG t9 t8
    go_enter Try.func4, Try.ntmps4
    go_wp2_with fail
    have A0 := (Blk.new w 33 #[.bool true, .bool false, .int .i64 0, .int .i64 36, .string vector]).alloc (Obj.cells #[.bool true, .bool true, .int .i64 0, .int .i64 kind, .string value] 33)
    have A1 := Blk.new (w.alloc (Obj.cells #[.bool true, .bool false, .int .i64 0, .int .i64 36, .string vector] 33)) 33 #[.bool true, .bool true, .int .i64 0, .int .i64 kind, .string value]
    rw [World.size_alloc] at A1
    have U1 := (((Upd.refl [] w).alloc (Obj.cells #[.bool true, .bool false, .int .i64 0, .int .i64 36, .string vector] 33)).alloc (Obj.cells #[.bool true, .bool true, .int .i64 0, .int .i64 kind, .string value] 33))
    have HA0 := Lib.hid (A0.alloc (Obj.cells #[.bool true, .bool false, .int .i64 0, .int .i64 36, .string vector, .bool true, .bool true, .int .i64 0, .int .i64 kind, .string value] 33))
    have HA1 := Lib.hid (A1.alloc (Obj.cells #[.bool true, .bool false, .int .i64 0, .int .i64 36, .string vector, .bool true, .bool true, .int .i64 0, .int .i64 kind, .string value] 33))
    have HU1 := Lib.hid (U1.alloc (Obj.cells #[.bool true, .bool false, .int .i64 0, .int .i64 36, .string vector, .bool true, .bool true, .int .i64 0, .int .i64 kind, .string value] 33))
    have hsz : ((w.alloc (Obj.cells #[.bool true, .bool false, .int .i64 0, .int .i64 36, .string vector] 33)).alloc (Obj.cells #[.bool true, .bool true, .int .i64 0, .int .i64 kind, .string value] 33)).heap.size = w.heap.size + 1 + 1 := by simp
    have p1 := P1.out ((w.alloc (Obj.cells #[.bool true, .bool false, .int .i64 0, .int .i64 36, .string vector] 33)).alloc (Obj.cells #[.bool true, .bool true, .int .i64 0, .int .i64 kind, .string value] 33))
    rw [hsz] at p1
    clear A0 A1 U1
    refine p1.mono ?_
    clear p1 hsz
    rintro e w1 ⟨rfl, hu1⟩
    have xA := HA0.out.upd hu1 (by simp)
    have xB := HA1.out.upd hu1 (by simp)
    have xa0 := xA.cell 0
    have xa1 := xA.cell 1
    have xa2 := xA.cell 2
    have xa3 := xA.cell 3
    have xa4 := xA.cell 4
    have xb0 := xB.cell 0
    have xb1 := xB.cell 1
    have xb2 := xB.cell 2
    have xb3 := xB.cell 3
    have xb4 := xB.cell 4
    simp only [List.size_toArray, List.length_cons, List.length_nil, List.getElem?_toArray, List.getElem?_cons_zero, List.getElem?_cons_succ] at xa0 xa1 xa2 xa3 xa4 xb0 xb1 xb2 xb3 xb4
    have HX := Lib.hid (And.intro xA xB)
    have HU2 := Lib.hid (HU1.out.trans hu1)
    clear hu1 HA0 HA1 HU1
    go_wp2_with fail
    clear xA xB xa0 xa1 xa2 xa3 xa4 xb0 xb1 xb2 xb3 xb4
    refine (P2.out _).mono ?_
    rintro e w2 ⟨rfl, hu2⟩
    have HY := Lib.hid (And.intro ((HX.out.1.alloc (Obj.cells #[.bool true, .bool false, .int .i64 0, .int .i64 36, .string vector, .bool true, .bool true, .int .i64 0, .int .i64 kind, .string value] 33)).upd hu2 (by simp)) ((HX.out.2.alloc (Obj.cells #[.bool true, .bool false, .int .i64 0, .int .i64 36, .string vector, .bool true, .bool true, .int .i64 0, .int .i64 kind, .string value] 33)).upd hu2 (by simp)))
    have HU3 := Lib.hid ((HU2.out.alloc _).trans hu2)
    clear hu2 HX HU2
    go_wp2_with fail
    refine (G1.out _).mono ?_
    rintro e w3 ⟨v3, o3, rfl, -, -, hu3⟩
    have HU4 := Lib.hid (HU3.out.trans hu3)
    have yA := HY.out.1.upd hu3 (by simp)
    have yB := HY.out.2.upd hu3 (by simp)
    have ya0 := yA.cell 0
    have ya1 := yA.cell 1
    have ya2 := yA.cell 2
    have ya3 := yA.cell 3
    have ya4 := yA.cell 4
    have yb0 := yB.cell 0
    have yb1 := yB.cell 1
    have yb2 := yB.cell 2
    have yb3 := yB.cell 3
    have yb4 := yB.cell 4
    simp only [List.size_toArray, List.length_cons, List.length_nil, List.getElem?_toArray, List.getElem?_cons_zero, List.getElem?_cons_succ] at ya0 ya1 ya2 ya3 ya4 yb0 yb1 yb2 yb3 yb4
    have HZ := Lib.hid (And.intro yA yB)
    clear hu3 HU3 HY
    go_wp2_with fail
    clear yA yB ya0 ya1 ya2 ya3 ya4 yb0 yb1 yb2 yb3 yb4
    refine (P3.out _).mono ?_
    rintro e w4 ⟨rfl, hu4⟩
    have HQ := Lib.hid (And.intro ((HZ.out.1.alloc (Obj.cells #[.bool true, .bool true, .int .i64 0, .int .i64 kind, .string value, .bool true, .bool false, .int .i64 0, .int .i64 36, .string vector] 33)).upd hu4 (by simp)) ((HZ.out.2.alloc (Obj.cells #[.bool true, .bool true, .int .i64 0, .int .i64 kind, .string value, .bool true, .bool false, .int .i64 0, .int .i64 36, .string vector] 33)).upd hu4 (by simp)))
    have HU5 := Lib.hid ((HU4.out.alloc _).trans hu4)
    clear hu4 HZ HU4
    go_wp2_with fail
    refine (G2.out _).mono ?_
    rintro e w5 ⟨v5, o5, rfl, -, -, hu5⟩
    have HU6 := Lib.hid (HU5.out.trans hu5)
    clear hu5
    go_wp2_with fail
    refine (alive18_any _).mono ?_
    rintro e w6 ⟨rfl, hu6⟩
    go_wp2_with fail
    go_ret
    exact ⟨rfl, HU6.out.trans hu6⟩
  have hc9 : ¬ (num (hdX kind value vector secret other) 0 2 ≠ value.size) := fun h => h t9
  rw [if_neg hc9] at h8
  have P4 := hd_again other t8 hv hw hk t9
  have hsame := fun h : other = secret => (show (hdX kind value vector secret other).extract 2 (2 + value.size) = value by
    rw [h, hd_same hv]
    exact (be2_extract value value.size (by omega)).2.2)
  have hxz := @hdX_size kind value vector secret other
  clear hc9 t9
  generalize hdX kind value vector secret other = X at *
  have zx : (X.extract 2 (2 + value.size)).size ≤ 400000 := by rw [ByteArray.size_extract]; omega
  generalize X.extract 2 (2 + value.size) = x at *
  subst h8
  rw [if_neg (by simp)] at hG
  dsimp only at hG
  clear hxz
  rw [HS.out] at P4
  have P5 := fun (v : Value) (W : World) h => avpPut_any [hdV vector, hdH kind x] v other W h (by omega)
  rw [P4] at P5
  rw [hG] at G2
  dsimp only at G2 P5
  replace G2 := Lib.hid G2
  replace P5 := Lib.hid P5
  clear hG t8 P4 zx
  by_cases t10 : other = secret
  · obtain rfl := (hsame t10).symm
    have e2 : (other.toList == secret.toList) = true := by rw [t10]; simp
    have e3 : (other.toList != secret.toList) = false := by rw [t10]; simp
    clear hsame t10
    go_enter Try.func4, Try.ntmps4
    go_wp2_with fail
    have A0 := (Blk.new w 33 #[.bool true, .bool false, .int .i64 0, .int .i64 36, .string vector]).alloc (Obj.cells #[.bool true, .bool true, .int .i64 0, .int .i64 kind, .string value] 33)
    have A1 := Blk.new (w.alloc (Obj.cells #[.bool true, .bool false, .int .i64 0, .int .i64 36, .string vector] 33)) 33 #[.bool true, .bool true, .int .i64 0, .int .i64 kind, .string value]
    rw [World.size_alloc] at A1
    have U1 := (((Upd.refl [] w).alloc (Obj.cells #[.bool true, .bool false, .int .i64 0, .int .i64 36, .string vector] 33)).alloc (Obj.cells #[.bool true, .bool true, .int .i64 0, .int .i64 kind, .string value] 33))
    have HA0 := Lib.hid (A0.alloc (Obj.cells #[.bool true, .bool false, .int .i64 0, .int .i64 36, .string vector, .bool true, .bool true, .int .i64 0, .int .i64 kind, .string value] 33))
    have HA1 := Lib.hid (A1.alloc (Obj.cells #[.bool true, .bool false, .int .i64 0, .int .i64 36, .string vector, .bool true, .bool true, .int .i64 0, .int .i64 kind, .string value] 33))
    have HU1 := Lib.hid (U1.alloc (Obj.cells #[.bool true, .bool false, .int .i64 0, .int .i64 36, .string vector, .bool true, .bool true, .int .i64 0, .int .i64 kind, .string value] 33))
    have hsz : ((w.alloc (Obj.cells #[.bool true, .bool false, .int .i64 0, .int .i64 36, .string vector] 33)).alloc (Obj.cells #[.bool true, .bool true, .int .i64 0, .int .i64 kind, .string value] 33)).heap.size = w.heap.size + 1 + 1 := by simp
    have p1 := P1.out ((w.alloc (Obj.cells #[.bool true, .bool false, .int .i64 0, .int .i64 36, .string vector] 33)).alloc (Obj.cells #[.bool true, .bool true, .int .i64 0, .int .i64 kind, .string value] 33))
    rw [hsz] at p1
    clear A0 A1 U1
    refine p1.mono ?_
    clear p1 hsz
    rintro e w1 ⟨rfl, hu1⟩
    have xA := HA0.out.upd hu1 (by simp)
    have xB := HA1.out.upd hu1 (by simp)
    have xa0 := xA.cell 0
    have xa1 := xA.cell 1
    have xa2 := xA.cell 2
    have xa3 := xA.cell 3
    have xa4 := xA.cell 4
    have xb0 := xB.cell 0
    have xb1 := xB.cell 1
    have xb2 := xB.cell 2
    have xb3 := xB.cell 3
    have xb4 := xB.cell 4
    simp only [List.size_toArray, List.length_cons, List.length_nil, List.getElem?_toArray, List.getElem?_cons_zero, List.getElem?_cons_succ] at xa0 xa1 xa2 xa3 xa4 xb0 xb1 xb2 xb3 xb4
    have HX := Lib.hid (And.intro xA xB)
    have HU2 := Lib.hid (HU1.out.trans hu1)
    clear hu1 HA0 HA1 HU1
    go_wp2_with fail
    clear xA xB xa0 xa1 xa2 xa3 xa4 xb0 xb1 xb2 xb3 xb4
    refine (P2.out _).mono ?_
    rintro e w2 ⟨rfl, hu2⟩
    have HY := Lib.hid (And.intro ((HX.out.1.alloc (Obj.cells #[.bool true, .bool false, .int .i64 0, .int .i64 36, .string vector, .bool true, .bool true, .int .i64 0, .int .i64 kind, .string value] 33)).upd hu2 (by simp)) ((HX.out.2.alloc (Obj.cells #[.bool true, .bool false, .int .i64 0, .int .i64 36, .string vector, .bool true, .bool true, .int .i64 0, .int .i64 kind, .string value] 33)).upd hu2 (by simp)))
    have HU3 := Lib.hid ((HU2.out.alloc _).trans hu2)
    clear hu2 HX HU2
    go_wp2_with fail
    refine (G1.out _).mono ?_
    rintro e w3 ⟨v3, o3, rfl, -, -, hu3⟩
    have HU4 := Lib.hid (HU3.out.trans hu3)
    have yA := HY.out.1.upd hu3 (by simp)
    have yB := HY.out.2.upd hu3 (by simp)
    have ya0 := yA.cell 0
    have ya1 := yA.cell 1
    have ya2 := yA.cell 2
    have ya3 := yA.cell 3
    have ya4 := yA.cell 4
    have yb0 := yB.cell 0
    have yb1 := yB.cell 1
    have yb2 := yB.cell 2
    have yb3 := yB.cell 3
    have yb4 := yB.cell 4
    simp only [List.size_toArray, List.length_cons, List.length_nil, List.getElem?_toArray, List.getElem?_cons_zero, List.getElem?_cons_succ] at ya0 ya1 ya2 ya3 ya4 yb0 yb1 yb2 yb3 yb4
    have HZ := Lib.hid (And.intro yA yB)
    clear hu3 HU3 HY
    go_wp2_with fail
    clear yA yB ya0 ya1 ya2 ya3 ya4 yb0 yb1 yb2 yb3 yb4
    refine (P3.out _).mono ?_
    rintro e w4 ⟨rfl, hu4⟩
    have HQ := Lib.hid (And.intro ((HZ.out.1.alloc (Obj.cells #[.bool true, .bool true, .int .i64 0, .int .i64 kind, .string value, .bool true, .bool false, .int .i64 0, .int .i64 36, .string vector] 33)).upd hu4 (by simp)) ((HZ.out.2.alloc (Obj.cells #[.bool true, .bool true, .int .i64 0, .int .i64 kind, .string value, .bool true, .bool false, .int .i64 0, .int .i64 36, .string vector] 33)).upd hu4 (by simp)))
    have HU5 := Lib.hid ((HU4.out.alloc _).trans hu4)
    clear hu4 HZ HU4
    go_wp2_with fail
    refine (G2.out _).mono ?_
    rintro e w5 ⟨v5, o5, rfl, ho5, -, hu5⟩
    obtain ⟨a5, c5, rfl, ha5⟩ := avs_sh (l := [hdV vector, hdH kind value]) ho5
    have HM := Lib.hid ha5
    have HU6 := Lib.hid (HU5.out.trans hu5)
    have HR := Lib.hid (And.intro (HQ.out.1.upd hu5 (by simp)) (HQ.out.2.upd hu5 (by simp)))
    simp only [List.length_cons, List.length_nil, Nat.zero_add, Nat.reduceAdd] at HM ⊢
    clear hu5 ho5 ha5 HQ HU5
    go_wp2_with fail
    refine (P5.out _ _ HM.out).mono ?_
    rintro e w6 ⟨rfl, hu6⟩
    have HU7 := Lib.hid (HU6.out.trans hu6)
    have HR2 := Lib.hid (And.intro (HR.out.1.upd hu6 (by simp)) (HR.out.2.upd hu6 (by simp)))
    replace HM := Lib.hid (HM.out.upd hu6)
    clear hu6 HR HU6
    go_wp2_with fail
    refine (alive18_any _).mono ?_
    rintro e w7 ⟨rfl, hu7⟩
    have HU8 := Lib.hid (HU7.out.trans hu7)
    replace HM := Lib.hid (HM.out.upd hu7)
    have zA := HR2.out.1.upd hu7 (by simp)
    have zB := HR2.out.2.upd hu7 (by simp)
    have za0 := zA.cell 0
    have za1 := zA.cell 1
    have za2 := zA.cell 2
    have za3 := zA.cell 3
    have za4 := zA.cell 4
    have zb0 := zB.cell 0
    have zb1 := zB.cell 1
    have zb2 := zB.cell 2
    have zb3 := zB.cell 3
    have zb4 := zB.cell 4
    simp only [List.size_toArray, List.length_cons, List.length_nil, List.getElem?_toArray, List.getElem?_cons_zero, List.getElem?_cons_succ] at za0 za1 za2 za3 za4 zb0 zb1 zb2 zb3 zb4
    clear hu7 HR2 HU7
    go_wp2_with fail
    refine (same_av [hdV vector, hdH kind value] [hdV vector, hdH kind value] _ _ _ (HM.out.upd ((Upd.refl _ _).alloc _)) (HAB.out _)).mono ?_
    rintro e w8 ⟨rfl, hu8⟩
    rw [show decide ([hdV vector, hdH kind value] = [hdV vector, hdH kind value]) = true by simp]
    go_wp2_with fail
    go_ret
    exact ⟨rfl, (HU8.out.alloc _).trans hu8⟩
  have e2 : (other.toList == secret.toList) = false := by
    cases h : (other.toList == secret.toList)
    · rfl
    · exact absurd (str_inj'.1 (eq_of_beq h)) t10
  have e3 : (other.toList != secret.toList) = true := by simp only [bne, e2, Bool.not_false]
  clear hsame t10
  go_enter Try.func4, Try.ntmps4
  go_wp2_with fail
  have A0 := (Blk.new w 33 #[.bool true, .bool false, .int .i64 0, .int .i64 36, .string vector]).alloc (Obj.cells #[.bool true, .bool true, .int .i64 0, .int .i64 kind, .string value] 33)
  have A1 := Blk.new (w.alloc (Obj.cells #[.bool true, .bool false, .int .i64 0, .int .i64 36, .string vector] 33)) 33 #[.bool true, .bool true, .int .i64 0, .int .i64 kind, .string value]
  rw [World.size_alloc] at A1
  have U1 := (((Upd.refl [] w).alloc (Obj.cells #[.bool true, .bool false, .int .i64 0, .int .i64 36, .string vector] 33)).alloc (Obj.cells #[.bool true, .bool true, .int .i64 0, .int .i64 kind, .string value] 33))
  have HA0 := Lib.hid (A0.alloc (Obj.cells #[.bool true, .bool false, .int .i64 0, .int .i64 36, .string vector, .bool true, .bool true, .int .i64 0, .int .i64 kind, .string value] 33))
  have HA1 := Lib.hid (A1.alloc (Obj.cells #[.bool true, .bool false, .int .i64 0, .int .i64 36, .string vector, .bool true, .bool true, .int .i64 0, .int .i64 kind, .string value] 33))
  have HU1 := Lib.hid (U1.alloc (Obj.cells #[.bool true, .bool false, .int .i64 0, .int .i64 36, .string vector, .bool true, .bool true, .int .i64 0, .int .i64 kind, .string value] 33))
  have hsz : ((w.alloc (Obj.cells #[.bool true, .bool false, .int .i64 0, .int .i64 36, .string vector] 33)).alloc (Obj.cells #[.bool true, .bool true, .int .i64 0, .int .i64 kind, .string value] 33)).heap.size = w.heap.size + 1 + 1 := by simp
  have p1 := P1.out ((w.alloc (Obj.cells #[.bool true, .bool false, .int .i64 0, .int .i64 36, .string vector] 33)).alloc (Obj.cells #[.bool true, .bool true, .int .i64 0, .int .i64 kind, .string value] 33))
  rw [hsz] at p1
  clear A0 A1 U1
  refine p1.mono ?_
  clear p1 hsz
  rintro e w1 ⟨rfl, hu1⟩
  have xA := HA0.out.upd hu1 (by simp)
  have xB := HA1.out.upd hu1 (by simp)
  have xa0 := xA.cell 0
  have xa1 := xA.cell 1
  have xa2 := xA.cell 2
  have xa3 := xA.cell 3
  have xa4 := xA.cell 4
  have xb0 := xB.cell 0
  have xb1 := xB.cell 1
  have xb2 := xB.cell 2
  have xb3 := xB.cell 3
  have xb4 := xB.cell 4
  simp only [List.size_toArray, List.length_cons, List.length_nil, List.getElem?_toArray, List.getElem?_cons_zero, List.getElem?_cons_succ] at xa0 xa1 xa2 xa3 xa4 xb0 xb1 xb2 xb3 xb4
  have HX := Lib.hid (And.intro xA xB)
  have HU2 := Lib.hid (HU1.out.trans hu1)
  clear hu1 HA0 HA1 HU1
  go_wp2_with fail
  clear xA xB xa0 xa1 xa2 xa3 xa4 xb0 xb1 xb2 xb3 xb4
  refine (P2.out _).mono ?_
  rintro e w2 ⟨rfl, hu2⟩
  have HY := Lib.hid (And.intro ((HX.out.1.alloc (Obj.cells #[.bool true, .bool false, .int .i64 0, .int .i64 36, .string vector, .bool true, .bool true, .int .i64 0, .int .i64 kind, .string value] 33)).upd hu2 (by simp)) ((HX.out.2.alloc (Obj.cells #[.bool true, .bool false, .int .i64 0, .int .i64 36, .string vector, .bool true, .bool true, .int .i64 0, .int .i64 kind, .string value] 33)).upd hu2 (by simp)))
  have HU3 := Lib.hid ((HU2.out.alloc _).trans hu2)
  clear hu2 HX HU2
  go_wp2_with fail
  refine (G1.out _).mono ?_
  rintro e w3 ⟨v3, o3, rfl, -, -, hu3⟩
  have HU4 := Lib.hid (HU3.out.trans hu3)
  have yA := HY.out.1.upd hu3 (by simp)
  have yB := HY.out.2.upd hu3 (by simp)
  have ya0 := yA.cell 0
  have ya1 := yA.cell 1
  have ya2 := yA.cell 2
  have ya3 := yA.cell 3
  have ya4 := yA.cell 4
  have yb0 := yB.cell 0
  have yb1 := yB.cell 1
  have yb2 := yB.cell 2
  have yb3 := yB.cell 3
  have yb4 := yB.cell 4
  simp only [List.size_toArray, List.length_cons, List.length_nil, List.getElem?_toArray, List.getElem?_cons_zero, List.getElem?_cons_succ] at ya0 ya1 ya2 ya3 ya4 yb0 yb1 yb2 yb3 yb4
  have HZ := Lib.hid (And.intro yA yB)
  clear hu3 HU3 HY
  go_wp2_with fail
  clear yA yB ya0 ya1 ya2 ya3 ya4 yb0 yb1 yb2 yb3 yb4
  refine (P3.out _).mono ?_
  rintro e w4 ⟨rfl, hu4⟩
  have HQ := Lib.hid (And.intro ((HZ.out.1.alloc (Obj.cells #[.bool true, .bool true, .int .i64 0, .int .i64 kind, .string value, .bool true, .bool false, .int .i64 0, .int .i64 36, .string vector] 33)).upd hu4 (by simp)) ((HZ.out.2.alloc (Obj.cells #[.bool true, .bool true, .int .i64 0, .int .i64 kind, .string value, .bool true, .bool false, .int .i64 0, .int .i64 36, .string vector] 33)).upd hu4 (by simp)))
  have HU5 := Lib.hid ((HU4.out.alloc _).trans hu4)
  clear hu4 HZ HU4
  go_wp2_with fail
  refine (G2.out _).mono ?_
  rintro e w5 ⟨v5, o5, rfl, ho5, -, hu5⟩
  obtain ⟨a5, c5, rfl, ha5⟩ := avs_sh (l := [hdV vector, hdH kind x]) ho5
  have HM := Lib.hid ha5
  have HU6 := Lib.hid (HU5.out.trans hu5)
  have HR := Lib.hid (And.intro (HQ.out.1.upd hu5 (by simp)) (HQ.out.2.upd hu5 (by simp)))
  simp only [List.length_cons, List.length_nil, Nat.zero_add, Nat.reduceAdd] at HM ⊢
  clear hu5 ho5 ha5 HQ HU5
  go_wp2_with fail
  refine (P5.out _ _ HM.out).mono ?_
  rintro e w6 ⟨rfl, hu6⟩
  have HU7 := Lib.hid (HU6.out.trans hu6)
  have HR2 := Lib.hid (And.intro (HR.out.1.upd hu6 (by simp)) (HR.out.2.upd hu6 (by simp)))
  replace HM := Lib.hid (HM.out.upd hu6)
  clear hu6 HR HU6
  go_wp2_with fail
  refine (alive18_any _).mono ?_
  rintro e w7 ⟨rfl, hu7⟩
  have HU8 := Lib.hid (HU7.out.trans hu7)
  replace HM := Lib.hid (HM.out.upd hu7)
  have zA := HR2.out.1.upd hu7 (by simp)
  have zB := HR2.out.2.upd hu7 (by simp)
  have za0 := zA.cell 0
  have za1 := zA.cell 1
  have za2 := zA.cell 2
  have za3 := zA.cell 3
  have za4 := zA.cell 4
  have zb0 := zB.cell 0
  have zb1 := zB.cell 1
  have zb2 := zB.cell 2
  have zb3 := zB.cell 3
  have zb4 := zB.cell 4
  simp only [List.size_toArray, List.length_cons, List.length_nil, List.getElem?_toArray, List.getElem?_cons_zero, List.getElem?_cons_succ] at za0 za1 za2 za3 za4 zb0 zb1 zb2 zb3 zb4
  clear hu7 HR2 HU7
  go_wp2_with fail
  go_ret
  exact ⟨rfl, HU8.out⟩

theorem avpHides_walk (kind : Int) (_ : (Lit.int .i64 kind).wf = true) (value : ByteArray) (h1 : value.size ≤ reachBytes) (vector : ByteArray) (h2 : vector.size ≤ reachBytes) (secret : ByteArray) (h3 : secret.size ≤ reachBytes) (other : ByteArray) (h4 : other.size ≤ reachBytes) (W : World) :
    Calls Try.prog 4 #[.int .i64 kind, .string value, .string vector, .string secret, .string other] W fun e w' => e = .returned (.bool true) ∧ Below W.heap.size W w' := by
  unfold reachBytes at h1 h2 h3 h4
  exact (avpHides_any kind value vector secret other ⟨⟨by omega, by omega⟩, by omega, by omega⟩ W).mono fun e W' ⟨he, hu⟩ => ⟨he, hu.below⟩
end Go.Proofs.Ytbhohdhndelddaa
