/- The walk of the statement TagTells. -/
import Derived.Test.YtomnnnjahpoggaaGreatTagS
import Derived.Test.YtomnnnjahpoggaaGreatTagL
import Derived.Test.YtomnnnjahpoggaaGreatApp
import Derived.Test.YtomnnnjahpoggaaGreatBkTagsL
import Derived.Test.YtomnnnjahpoggaaGreatBkApTags
import Derived.Test.YtomnnnjahpoggaaGreatBkZ
namespace Go.Proofs.YtomnnnjahpoggaaGreat
open Go.RowKit
set_option linter.unusedSimpArgs false
set_option linter.unusedVariables false
set_option maxRecDepth 100000

set_option maxHeartbeats 400000 in
theorem tagSame_any (l m : List Tg) (v u : Value) (w : World) (hl : TgsAt w v l) (hm : TgsAt w u m) :
    Calls Tryz.prog 18 #[v, u] w fun e w' => e = .returned (.bool (decide (l = m))) ∧ Upd [] w w' := by
  have HL := Lib.hid hl
  have HM := Lib.hid hm
  clear hl hm
  go_enter Tryz.func18, Tryz.ntmps18
  go_wp2_with fail
  refine (equal_any l m v u _ HL.out HM.out).mono ?_
  rintro e w' ⟨rfl, hu⟩
  go_wp2_with fail
  go_ret
  exact ⟨rfl, hu⟩

set_option maxHeartbeats 4000000 in
theorem tagTells_any (d : Dc) (l m : List Tg) (v u : Value) (b : ByteArray) (kind : Int) (w : World) (hl : TgsAt w v l) (hm : TgsAt w u m) (hls : ∀ t ∈ l, t.s.size ≤ 140737488355328) (hms : ∀ t ∈ m, t.s.size ≤ 140737488355328)
    (hd : d.data.size ≤ 140737488355328) (hb : b.size ≤ 140737488355328) :
    Calls Tryz.prog 3 #[d.val, v, u, .string b, .int .i64 kind] w fun e w' => e = .returned (.bool true) ∧ Upd [] w w' := by
  obtain ⟨ao, cap, rfl, hc1, hc2, -⟩ := id hl
  obtain ⟨bo, cbp, rfl, hd1, hd2, -⟩ := id hm
  have HL := Lib.hid hl
  have HLS := Lib.hid hls
  have HM := Lib.hid hm
  have HMS := Lib.hid hms
  clear hl hls hm hms
  obtain ⟨A, hA⟩ : ∃ A, A = Obj.cells #[Value.int IntKind.i64 d.code, Value.int IntKind.i64 d.sess, Value.string d.data] 23 := ⟨_, rfl⟩
  have A0 : Blk (w.alloc A) w.heap.size 23 #[Value.int IntKind.i64 d.code, Value.int IntKind.i64 d.sess, Value.string d.data] := by rw [hA]; exact Blk.new _ _ _
  have U0 := Lib.hid ((Upd.refl [] w).alloc A)
  have HA := Lib.hid hA
  have HC : Hid (∀ W, Upd [] (w.alloc A) W → W.cell? ⟨w.heap.size, 0, none⟩ = some (.int .i64 d.code) ∧ W.cell? ⟨w.heap.size, 1, none⟩ = some (.int .i64 d.sess) ∧ W.cell? ⟨w.heap.size, 2, none⟩ = some (.string d.data)) := fun W hu =>
    ⟨(A0.upd hu (by simp)).cell 0, (A0.upd hu (by simp)).cell 1, (A0.upd hu (by simp)).cell 2⟩
  have HTL := Lib.hid (HL.out.upd U0.out)
  have HTM := Lib.hid (HM.out.upd U0.out)
  clear A0 hA
  by_cases t1 : Light l = true
  rotate_left
  · have T1 : Hid (Light l = false) := by show _ = _; simpa using t1
    clear t1
    go_enter Tryz.func3, Tryz.ntmps3
    simp only [Dc.val]
    go_wp2_with fail
    rw [← HA.out]
    refine (light_any l _ _ HTL.out HLS.out).mono ?_
    rintro e w1 ⟨rfl, hu1⟩
    rw [T1.out]
    go_wp2_with fail
    refine (alive_any _).mono ?_
    rintro e w2 ⟨rfl, hu2⟩
    go_wp2_with fail
    go_ret
    exact ⟨rfl, (U0.out.trans hu1).trans hu2⟩
  have T1 := Lib.hid t1
  clear t1
  by_cases t2 : Light m = true
  rotate_left
  · have T2 : Hid (Light m = false) := by show _ = _; simpa using t2
    clear t2
    go_enter Tryz.func3, Tryz.ntmps3
    simp only [Dc.val]
    go_wp2_with fail
    rw [← HA.out]
    refine (light_any l _ _ HTL.out HLS.out).mono ?_
    rintro e w1 ⟨rfl, hu1⟩
    rw [T1.out]
    have HU1 := Lib.hid hu1
    clear hu1
    go_wp2_with fail
    refine (light_any m _ _ (HTM.out.upd HU1.out) HMS.out).mono ?_
    rintro e w2 ⟨rfl, hu2⟩
    rw [T2.out]
    have HU2 := Lib.hid (HU1.out.trans hu2)
    clear hu2
    go_wp2_with fail
    refine (alive_any _).mono ?_
    rintro e w3 ⟨rfl, hu3⟩
    go_wp2_with fail
    go_ret
    exact ⟨rfl, (U0.out.trans HU2.out).trans hu3⟩
  have T2 := Lib.hid t2
  clear t2
  by_cases t3 : 9000 < d.data.size + b.size
  · have t3' : (9000 : Int) < d.data.size + b.size := by omega
    go_enter Tryz.func3, Tryz.ntmps3
    simp only [Dc.val]
    go_wp2_with fail
    rw [← HA.out]
    refine (light_any l _ _ HTL.out HLS.out).mono ?_
    rintro e w1 ⟨rfl, hu1⟩
    rw [T1.out]
    have HU1 := Lib.hid hu1
    clear hu1
    go_wp2_with fail
    refine (light_any m _ _ (HTM.out.upd HU1.out) HMS.out).mono ?_
    rintro e w2 ⟨rfl, hu2⟩
    rw [T2.out]
    have HU2 := Lib.hid (HU1.out.trans hu2)
    have hc := HC.out w2 (HU1.out.trans hu2)
    clear hu2
    go_wp2_with fail
    refine (alive_any _).mono ?_
    rintro e w3 ⟨rfl, hu3⟩
    go_wp2_with fail
    go_ret
    exact ⟨rfl, (U0.out.trans HU2.out).trans hu3⟩
  have t3' : ¬ (9000 : Int) < d.data.size + b.size := by omega
  obtain ⟨p0, p1, hp⟩ : ∃ b e, d.put = (b, e) := ⟨_, _, rfl⟩
  obtain ⟨⟨g0, g1, g2⟩, ge, hg⟩ : ∃ x e, Dc.get b = (x, e) := ⟨_, _, rfl⟩
  obtain ⟨q0, q1, hq⟩ : ∃ b e, putTgs l = (b, e) := ⟨_, _, rfl⟩
  obtain ⟨r0, r1, hr⟩ : ∃ (x : List Tg) (e : Int), getTgs b = (x, e) := ⟨_, _, rfl⟩
  obtain ⟨f0, f1, hf⟩ : ∃ b n, findTg kind l (⟨#[]⟩, 0) = (b, n) := ⟨_, _, rfl⟩
  have HP := Lib.hid hp
  have HG := Lib.hid hg
  have HQ := Lib.hid hq
  have HR := Lib.hid hr
  have HF := Lib.hid hf
  have HDS : Hid (d.data.size ≤ maxLen) := by show _ ≤ _; simp only [maxLen]; omega
  have HBS : Hid (b.size ≤ maxLen) := by show _ ≤ _; simp only [maxLen]; omega
  have HBB := Lib.hid hb
  have HLL : Hid (l.length ≤ 40) := by
    have := T1.out
    simp [Light] at this
    exact this.1
  have HRL : Hid (r0.length ≤ 20) := by
    have h := getTgs_len b
    rw [hr] at h
    exact h
  clear hp hg hq hr hf
  go_enter Tryz.func3, Tryz.ntmps3
  simp only [Dc.val]
  go_wp2_with fail
  rw [← HA.out]
  refine (light_any l _ _ HTL.out HLS.out).mono ?_
  rintro e w1 ⟨rfl, hu1⟩
  rw [T1.out]
  have HU1 := Lib.hid hu1
  clear hu1
  go_wp2_with fail
  refine (light_any m _ _ (HTM.out.upd HU1.out) HMS.out).mono ?_
  rintro e w2 ⟨rfl, hu2⟩
  rw [T2.out]
  have HU2 := Lib.hid (HU1.out.trans hu2)
  obtain ⟨hc0, hc1', hc2'⟩ := HC.out w2 (HU1.out.trans hu2)
  clear hu2 HU1
  go_wp2_with fail
  refine (put_any d HDS.out _).mono ?_
  rintro e w3 ⟨rfl, hu3⟩
  rw [HP.out]
  have HU3 := Lib.hid (HU2.out.trans hu3)
  clear hc0 hc1' hc2'
  obtain ⟨hc0, hc1', hc2'⟩ := HC.out w3 (HU2.out.trans hu3)
  clear hu3 HU2
  go_wp2_with fail
  refine (rput_any d HDS.out _).mono ?_
  rintro e w4 ⟨rfl, hu4⟩
  rw [HP.out]
  have HU4 := Lib.hid (HU3.out.trans hu4)
  clear hu4 HU3 hc0 hc1' hc2'
  go_wp2_with fail
  refine (get_any b HBS.out _).mono ?_
  rintro e w5 ⟨rfl, hu5⟩
  rw [HG.out]
  simp only [Dc.val]
  have HU5 := Lib.hid ((HU4.out.trans hu5).alloc (Obj.cells #[Value.int IntKind.i64 g0, Value.int IntKind.i64 g1, Value.string g2] 23))
  have B5 := Blk.new w5 23 #[Value.int IntKind.i64 g0, Value.int IntKind.i64 g1, Value.string g2]
  have HB5 := Lib.hid B5
  clear hu5 HU4 B5
  go_wp2_with fail
  refine (rget_any b HBS.out _).mono ?_
  rintro e w6 ⟨rfl, hu6⟩
  rw [HG.out]
  simp only [Dc.val]
  have HU6 := Lib.hid ((HU5.out.trans hu6).alloc (Obj.cells #[Value.int IntKind.i64 g0, Value.int IntKind.i64 g1, Value.string g2] 23))
  have b5 := (HB5.out.upd hu6 (by simp)).alloc (Obj.cells #[Value.int IntKind.i64 g0, Value.int IntKind.i64 g1, Value.string g2] 23)
  have c0 := b5.cell 0
  have c1 := b5.cell 1
  have c2 := b5.cell 2
  simp only [List.size_toArray, List.length_cons, List.length_nil, List.getElem?_toArray, List.getElem?_cons_zero, List.getElem?_cons_succ] at c0 c1 c2
  clear hu6 HU5 HB5 b5
  go_wp2_with (refine wpList_build_of rfl 52 rfl bkZ (bk_build _) ?_)
  have HK0 : Hid (BkTags w ((w6.alloc (Obj.cells #[Value.int IntKind.i64 g0, Value.int IntKind.i64 g1, Value.string g2] 23)).alloc (Obj.cells bkZ 52)) (w6.heap.size + 1) []) := by
    have h := BkTags.zero w (w6.alloc (Obj.cells #[Value.int IntKind.i64 g0, Value.int IntKind.i64 g1, Value.string g2] 23)) (U0.out.trans HU6.out) (cs := bkZ) rfl
    rw [World.size_alloc] at h
    exact h
  generalize (w6.alloc (Obj.cells #[Value.int IntKind.i64 g0, Value.int IntKind.i64 g1, Value.string g2] 23)).alloc (Obj.cells bkZ 52) = w8 at *
  generalize w6.heap.size + 1 = g at *
  clear c0 c1 c2 HU6 HC HTL HTM HA U0 HP HG
  obtain ⟨sb, hsb⟩ : ∃ x, x = decide (l = m) := ⟨_, rfl⟩
  have HSB := Lib.hid hsb
  have hsn : (sb != sb) = false := by cases sb <;> rfl
  clear hsb
  go_loopg [20] 2 (fun mm s20 wr => ∃ (k : Nat) (R : List (Bit Tg)), k + mm = 2 ∧ s20 = .int .i64 k ∧ BkTags w wr g R)
  case atStart => exact ⟨0, [], by omega, rfl, HK0.out⟩
  case round =>
    obtain ⟨k, R, hk, rfl, hbk⟩ := hrel
    have HBK := Lib.hid hbk
    clear hbk
    by_cases t : k < 2
    · have ti : (k : Int) < 2 := by omega
      have HL1 := Lib.hid (HL.out.upd HBK.out.ups)
      have HM1 := Lib.hid (HM.out.upd HBK.out.ups)
      go_wp2_with fail
      refine (bkLentTags l _ _ HL1.out.rd (by have := HLL.out; omega)).mono ?_
      rintro e w1 ⟨v1, own1, rfl, hv1, hf1, hu1⟩
      have HV1 := Lib.hid hv1
      have HUA := Lib.hid hu1
      clear hv1 hf1 hu1
      go_wp2_with fail
      refine (putTags_any l _ _ (TgsAt.of_own (HV1.out.own bkCTags_len)) HLS.out).mono ?_
      rintro e w2 ⟨rfl, hu2⟩
      rw [HQ.out]
      have HV2 := Lib.hid (HV1.out.updD hu2)
      have HUB := Lib.hid (HUA.out.trans hu2)
      clear hu2 HUA HV1
      go_wp2_with fail
      refine (rputTags_any l _ _ (HL1.out.upd HUB.out) HLS.out).mono ?_
      rintro e w3 ⟨rfl, hu3⟩
      rw [HQ.out]
      have HV3 := Lib.hid (HV2.out.updD hu3)
      have HUC := Lib.hid (HUB.out.trans hu3)
      clear hu3 HUB HV2
      go_wp2_with fail
      refine (getTags_own b HBB.out _).mono ?_
      rintro e w4 ⟨v4, own4, rfl, ho4, hf4, hu4⟩
      rw [HR.out] at ho4
      rw [HR.out]
      have HV4 := Lib.hid (HV3.out.updD hu4)
      have HO4 := Lib.hid ho4
      have HF4 := Lib.hid (fun y hy => Nat.le_trans HUC.out.size (hf4 y hy))
      have HUD := Lib.hid (HUC.out.trans hu4)
      clear hu4 HUC HV3 ho4 hf4
      go_wp2_with fail
      refine (rgetTags_any b HBB.out _).mono ?_
      rintro e w5 ⟨v5, rfl, ht5, hu5⟩
      rw [HR.out] at ht5
      rw [HR.out]
      have HV5 := Lib.hid (HV4.out.updD hu5)
      have HO5 := Lib.hid (HO4.out.updD hu5)
      have HT5 := Lib.hid ht5
      have HUE := Lib.hid (HUD.out.trans hu5)
      clear hu5 HUD HV4 HO4 ht5
      go_wp2_with fail
      refine (find_any l _ kind _ (TgsAt.of_own (HV5.out.own bkCTags_len))).mono ?_
      rintro e w6 ⟨rfl, hu6⟩
      rw [HF.out]
      have HV6 := Lib.hid (HV5.out.updD hu6)
      have HO6 := Lib.hid (HO5.out.updD hu6)
      have HT6 := Lib.hid (HT5.out.upd hu6)
      have HUF := Lib.hid (HUE.out.trans hu6)
      clear hu6 HUE HV5 HO5 HT5
      go_wp2_with fail
      refine (rfind_any l _ kind _ (HL1.out.upd HUF.out)).mono ?_
      rintro e w7 ⟨rfl, hu7⟩
      rw [HF.out]
      have HV7 := Lib.hid (HV6.out.updD hu7)
      have HO7 := Lib.hid (HO6.out.updD hu7)
      have HT7 := Lib.hid (HT6.out.upd hu7)
      have HUG := Lib.hid (HUF.out.trans hu7)
      clear hu7 HUF HV6 HO6 HT6
      go_wp2_with fail
      refine (bkSameTags r0 _ _ _ (HO7.out.rdB (bkCTags_one _)) HT7.out.rd).mono ?_
      rintro e w9 ⟨rfl, x9, hx9⟩
      have hu9 : Upd [] w7 w9 := hx9 ▸ (Upd.refl _ _).drewN x9
      have HV9 := Lib.hid (HV7.out.updD hu9)
      have HO9 := Lib.hid (HO7.out.updD hu9)
      have HUH := Lib.hid (HUG.out.trans hu9)
      clear hu9 hx9 HUG HV7 HO7 HT7
      go_wp2_with fail
      refine (tagSame_any l m _ _ _ (TgsAt.of_own (HV9.out.own bkCTags_len)) (HM1.out.upd HUH.out)).mono ?_
      rintro e w10 ⟨rfl, hu10⟩
      rw [← HSB.out]
      have HV10 := Lib.hid (HV9.out.updD hu10)
      have HO10 := Lib.hid (HO9.out.updD hu10)
      have HUI := Lib.hid (HUH.out.trans hu10)
      clear hu10 HUH HV9 HO9
      go_wp2_with fail
      refine (rsame_any l m _ _ _ (HL1.out.upd HUI.out) (HM1.out.upd HUI.out)).mono ?_
      rintro e w11 ⟨rfl, hu11⟩
      rw [← HSB.out]
      have HV11 := Lib.hid (HV10.out.updD hu11)
      have HO11 := Lib.hid (HO10.out.updD hu11)
      have HUJ := Lib.hid (HUI.out.trans hu11)
      clear hu11 HUI HV10 HO10
      go_wp2_with fail
      refine (bkStaysTags l _ _ own1 _ HV11.out (HL1.out.upd HUJ.out).rd).mono ?_
      rintro e w12 ⟨rfl, hu12⟩
      have HO12 := Lib.hid (HO11.out.updD hu12)
      have HUK := Lib.hid (HUJ.out.trans hu12)
      clear hu12 HUJ HV11 HO11
      go_wp2_with fail
      refine ((HBK.out.upd HUK.out).addTags ⟨v4, r0, own4⟩ HO12.out (by have := HRL.out; show r0.length ≤ _; omega) (fun y hy => Nat.le_trans HBK.out.ups.size (HF4.out y hy)) (fun d hd y hy hy2 => by
        have h1 := HBK.out.ltTags d hd y hy
        have h2 := HF4.out y hy2
        omega)).mono ?_
      rintro e w13 ⟨rfl, hb13, -⟩
      have HB13 := Lib.hid hb13
      clear hb13
      go_wp2_with fail
      go_roundg (2 - (k + 1))
      case rel => exact ⟨k + 1, _, by omega, by go_num, HB13.out⟩
      case measure => omega
    · obtain rfl : k = 2 := by omega
      go_wp2_with fail
      refine (alive_any _).mono ?_
      rintro e w1 ⟨rfl, hu1⟩
      have HB1 := Lib.hid (HBK.out.upd hu1)
      clear hu1
      go_wp2_with fail
      refine (apartTags_any HB1.out).mono ?_
      rintro e w2 ⟨rfl, hu2⟩
      go_wp2_with fail
      go_ret
      exact ⟨rfl, hu2⟩
end Go.Proofs.YtomnnnjahpoggaaGreat
