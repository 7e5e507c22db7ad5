/- The walk of the statement AvpTells. -/
import Derived.Test.YtfbdbebahpemhaaGreatQRAvB
import Derived.Test.YtfbdbebahpemhaaGreatQRAvF
import Derived.Test.YtfbdbebahpemhaaGreatQRAvG
import Derived.Test.YtfbdbebahpemhaaGreatQAvpL
import Derived.Test.YtfbdbebahpemhaaGreatQLightA
import Derived.Test.YtfbdbebahpemhaaGreatQBkAvpsA
import Derived.Test.YtfbdbebahpemhaaGreatQBkApA
import Derived.Test.YtfbdbebahpemhaaGreatQBkZ
namespace Go.Proofs.YtfbdbebahpemhaaGreat
open Go.RowKit
set_option linter.unusedSimpArgs false
set_option linter.unusedVariables false
set_option maxRecDepth 100000

theorem getFromA_len (secret : ByteArray) : ∀ (f : Nat) (b : ByteArray) (out : List Av), out.length ≤ 40 → (getFromA secret f b out).1.length ≤ 40
  | 0, _, out, h => h
  | f + 1, b, out, h => by
    rw [getFromA]
    by_cases t : b.size = 0
    · rw [if_pos t]; exact h
    rw [if_neg t]
    by_cases t2 : (oneA b secret out).2.2 ≠ 0
    · rw [if_pos t2]; exact Nat.zero_le _
    rw [if_neg t2]
    refine getFromA_len secret f _ _ ?_
    have := (oneA_ok (Classical.not_not.1 t2)).2.2.1
    rw [List.length_append]
    simp
    omega
theorem getA_len (b secret : ByteArray) : (getA b secret).1.length ≤ 40 := getFromA_len _ _ _ _ (by simp)

/-- What both Num give. -/
def numOfA (kind v n : Int) : Av := if 1 ≤ n ∧ n ≤ 8 then numAv kind v n.toNat else ⟨true, false, 0, kind, ⟨#[]⟩⟩
theorem numBoth (kind v n : Int) (hv : -9223372036854775808 ≤ v ∧ v ≤ 9223372036854775807) (w : World) :
    Calls Tryz.prog 21 #[.int .i64 kind, .int .i64 v, .int .i64 n] w fun e w' => e = .returned (numOfA kind v n).agg ∧ Upd [] w w' := by
  unfold numOfA
  by_cases t : 1 ≤ n ∧ n ≤ 8
  · rw [if_pos t]
    obtain ⟨m, rfl⟩ := Int.eq_ofNat_of_zero_le (show 0 ≤ n by omega)
    exact num_ok kind v m (by omega) w
  · rw [if_neg t]
    exact num_out kind v n t w
theorem rnumBoth (kind v n : Int) (hv : -9223372036854775808 ≤ v ∧ v ≤ 9223372036854775807) (w : World) :
    Calls Tryz.prog 22 #[.int .i64 kind, .int .i64 v, .int .i64 n] w fun e w' => e = .returned (numOfA kind v n).agg ∧ Upd [] w w' := by
  unfold numOfA
  by_cases t : 1 ≤ n ∧ n ≤ 8
  · rw [if_pos t]
    obtain ⟨m, rfl⟩ := Int.eq_ofNat_of_zero_le (show 0 ≤ n by omega)
    exact rnum18_any kind v m (by omega) hv w
  · rw [if_neg t]
    exact rnum18_out kind v n t w

set_option maxHeartbeats 4000000 in
theorem avpTells_any (l m : List Av) (v u : Value) (secret b : ByteArray) (kind x n : Int) (w : World) (hl : AvsAt w v l) (hm : AvsAt w u m) (hls : ∀ t ∈ l, t.val.size ≤ 140737488355328) (hms : ∀ t ∈ m, t.val.size ≤ 140737488355328)
    (hsz : secret.size ≤ 140737488355328) (hbz : b.size ≤ 140737488355328) (hx : -9223372036854775808 ≤ x ∧ x ≤ 9223372036854775807) :
    Calls Tryz.prog 3 #[v, u, .string secret, .string b, .int .i64 kind, .int .i64 x, .int .i64 n] w fun e w' => e = .returned (.bool true) ∧ Upd [] w w' := by
  obtain ⟨ao, cap, rfl, hc1, hc2, -⟩ := id hl
  obtain ⟨bo, cbp, rfl, hd1, hd2, -⟩ := id hm
  have HL := Lib.hid hl
  have HLS := Lib.hid hls
  have HM := Lib.hid hm
  have HMS := Lib.hid hms
  have HX := Lib.hid hx
  clear hl hls hm hms hx
  by_cases t1 : LightA l = true
  rotate_left
  · have T1 : Hid (LightA l = false) := by show _ = _; simpa using t1
    clear t1
    go_enter Tryz.func3, Tryz.ntmps3
    go_wp2_with fail
    refine (lightA_any l _ _ HL.out HLS.out).mono ?_
    rintro e w1 ⟨rfl, hu1⟩
    rw [T1.out]
    go_wp2_with fail
    refine (alive18_any _).mono ?_
    rintro e w2 ⟨rfl, hu2⟩
    go_wp2_with fail
    go_ret
    exact ⟨rfl, hu1.trans hu2⟩
  have T1 := Lib.hid t1
  clear t1
  by_cases t2 : LightA m = true
  rotate_left
  · have T2 : Hid (LightA m = false) := by show _ = _; simpa using t2
    clear t2
    go_enter Tryz.func3, Tryz.ntmps3
    go_wp2_with fail
    refine (lightA_any l _ _ HL.out HLS.out).mono ?_
    rintro e w1 ⟨rfl, hu1⟩
    rw [T1.out]
    have HU1 := Lib.hid hu1
    clear hu1
    go_wp2_with fail
    refine (lightA_any m _ _ (HM.out.upd HU1.out) HMS.out).mono ?_
    rintro e w2 ⟨rfl, hu2⟩
    rw [T2.out]
    have HU2 := Lib.hid (HU1.out.trans hu2)
    clear hu2
    go_wp2_with fail
    refine (alive18_any _).mono ?_
    rintro e w3 ⟨rfl, hu3⟩
    go_wp2_with fail
    go_ret
    exact ⟨rfl, HU2.out.trans hu3⟩
  have T2 := Lib.hid t2
  clear t2
  by_cases t3 : 300 < secret.size ∨ 3000 < b.size
  · have key : (300 < secret.size) ∨ (¬ 300 < secret.size ∧ 3000 < b.size) := by omega
    have HK : Hid (((300 : Int) < secret.size) ∨ (¬ (300 : Int) < secret.size ∧ (3000 : Int) < b.size)) := by show _ ∨ _; omega
    clear t3 key
    go_enter Tryz.func3, Tryz.ntmps3
    go_wp2_with fail
    refine (lightA_any l _ _ HL.out HLS.out).mono ?_
    rintro e w1 ⟨rfl, hu1⟩
    rw [T1.out]
    have HU1 := Lib.hid hu1
    clear hu1
    go_wp2_with fail
    refine (lightA_any m _ _ (HM.out.upd HU1.out) HMS.out).mono ?_
    rintro e w2 ⟨rfl, hu2⟩
    rw [T2.out]
    have HU2 := Lib.hid (HU1.out.trans hu2)
    clear hu2
    rcases HK.out with k1 | ⟨k1, k2⟩
    all_goals
      clear HK
      go_wp2_with fail
      refine (alive18_any _).mono ?_
      rintro e w3 ⟨rfl, hu3⟩
      go_wp2_with fail
      go_ret
      exact ⟨rfl, HU2.out.trans hu3⟩
  have t3a : ¬ (300 : Int) < secret.size := by omega
  have t3b : ¬ (3000 : Int) < b.size := by omega
  obtain ⟨q0, q1, hq⟩ : ∃ b n, putA l secret = (b, n) := ⟨_, _, rfl⟩
  obtain ⟨r0, r1, hr⟩ : ∃ (x : List Av) (e : Int), getA b secret = (x, e) := ⟨_, _, rfl⟩
  obtain ⟨f0, f1, hf⟩ : ∃ b n, findAv kind l = (b, n) := ⟨_, _, rfl⟩
  obtain ⟨c0, c1, hc⟩ : ∃ b n, numberAv l kind = (b, n) := ⟨_, _, rfl⟩
  obtain ⟨an, han⟩ : ∃ y, numOfA kind x n = y := ⟨_, rfl⟩
  obtain ⟨al, hal⟩ : ∃ y, avpLen kind = y := ⟨_, rfl⟩
  have HQ := Lib.hid hq
  have HR := Lib.hid hr
  have HF := Lib.hid hf
  have HC := Lib.hid hc
  have HAN := Lib.hid han
  have HAL := Lib.hid hal
  have HSZ : Hid (secret.size ≤ 400000) := by show _ ≤ _; omega
  have HBZ : Hid (b.size ≤ 400000) := by show _ ≤ _; omega
  have HLM : Hid (∀ t ∈ l, t.val.size ≤ maxLen) := fun t ht => by
    have := HLS.out t ht
    simp only [maxLen]
    omega
  have HLL : Hid (l.length ≤ 50) := LightA_spec T1.out
  have HRL : Hid (r0.length ≤ 40) := by
    have h := getA_len b secret
    rw [hr] at h
    exact h
  clear hq hr hf hc han hal t3
  go_enter Tryz.func3, Tryz.ntmps3
  go_wp2_with fail
  refine (lightA_any l _ _ HL.out HLS.out).mono ?_
  rintro e w1 ⟨rfl, hu1⟩
  rw [T1.out]
  have HU1 := Lib.hid hu1
  clear hu1
  go_wp2_with fail
  refine (lightA_any m _ _ (HM.out.upd HU1.out) HMS.out).mono ?_
  rintro e w2 ⟨rfl, hu2⟩
  rw [T2.out]
  have HU2 := Lib.hid (HU1.out.trans hu2)
  clear hu2 HU1
  go_wp2_with (refine wpList_build_of rfl 45 rfl bkZ (bk_build _) ?_)
  have HK0 : Hid (BkA [] w (w2.alloc (Obj.cells bkZ 45)) w2.heap.size []) := BkA.zero w w2 HU2.out (by simp) (cs := bkZ) rfl
  generalize w2.alloc (Obj.cells bkZ 45) = w8 at *
  generalize w2.heap.size = g at *
  clear HU2
  obtain ⟨sb, hsb⟩ : ∃ x, x = decide (l = m) := ⟨_, rfl⟩
  have HSB := Lib.hid hsb
  have hsn : (sb != sb) = false := by cases sb <;> rfl
  have hsf : (f1 != f1) = false := by cases f1 <;> rfl
  have hsc : (c1 != c1) = false := by cases c1 <;> rfl
  clear hsb
  go_loopg [16] 2 (fun mm s20 wr => ∃ (k : Nat) (R : List (Bit Av)), k + mm = 2 ∧ s20 = .int .i64 k ∧ BkA [] w wr g R)
  case atStart => exact ⟨0, [], by omega, rfl, HK0.out⟩
  case round =>
    obtain ⟨k, R, hk, rfl, hbk⟩ := hrel
    have HBK := Lib.hid hbk
    clear hbk
    by_cases t : k < 2
    · have ti : (k : Int) < 2 := by omega
      have HL1 := Lib.hid (HL.out.upd HBK.out.ups)
      have HM1 := Lib.hid (HM.out.upd HBK.out.ups)
      go_wp2_with fail
      refine (bkLentAvps l _ _ HL1.out.rd (by have := HLL.out; omega)).mono ?_
      rintro e w1 ⟨v1, own1, rfl, hv1, hf1, hu1⟩
      have HV1 := Lib.hid hv1
      have HUA := Lib.hid hu1
      clear hv1 hf1 hu1
      go_wp2_with fail
      refine (avpPut_any l _ secret _ (AvsAt.of_own (HV1.out.own bkCAvps_len)) HSZ.out).mono ?_
      rintro e w2 ⟨rfl, hu2⟩
      rw [HQ.out]
      have HV2 := Lib.hid (HV1.out.updD hu2)
      have HUB := Lib.hid (HUA.out.trans hu2)
      clear hu2 HUA HV1
      go_wp2_with fail
      refine (rput18_any l _ secret _ (HL1.out.upd HUB.out) HSZ.out).mono ?_
      rintro e w3 ⟨rfl, hu3⟩
      rw [HQ.out]
      have HV3 := Lib.hid (HV2.out.updD hu3)
      have HUC := Lib.hid (HUB.out.trans hu3)
      clear hu3 HUB HV2
      go_wp2_with fail
      refine (avpGet_any b secret _ HBZ.out HSZ.out).mono ?_
      rintro e w4 ⟨v4, own4, rfl, ho4, hf4, hu4⟩
      rw [HR.out] at ho4
      rw [HR.out]
      have HV4 := Lib.hid (HV3.out.updD hu4)
      have HO4 := Lib.hid ho4
      have HF4 := Lib.hid (fun y hy => Nat.le_trans HUC.out.size (hf4 y hy))
      have HUD := Lib.hid (HUC.out.trans hu4)
      clear hu4 HUC HV3 ho4 hf4
      go_wp2_with fail
      refine (rget18_any b secret _ HBZ.out HSZ.out).mono ?_
      rintro e w5 ⟨⟨v5, own5, rfl, ht5, -, hu5⟩⟩
      rw [HR.out] at ht5
      rw [HR.out]
      have HV5 := Lib.hid (HV4.out.updD hu5)
      have HO5 := Lib.hid (HO4.out.updD hu5)
      have HT5 := Lib.hid (AvsAt.of_own ht5)
      have HUE := Lib.hid (HUD.out.trans hu5)
      clear hu5 HUD HV4 HO4 ht5
      go_wp2_with fail
      refine (avFind_any l _ kind _ (AvsAt.of_own (HV5.out.own bkCAvps_len))).mono ?_
      rintro e w6 ⟨rfl, hu6⟩
      rw [HF.out]
      have HV6 := Lib.hid (HV5.out.updD hu6)
      have HO6 := Lib.hid (HO5.out.updD hu6)
      have HT6 := Lib.hid (HT5.out.upd hu6)
      have HUF := Lib.hid (HUE.out.trans hu6)
      clear hu6 HUE HV5 HO5 HT5
      go_wp2_with fail
      refine (rfind18_any l _ kind _ (HL1.out.upd HUF.out)).mono ?_
      rintro e w7 ⟨rfl, hu7⟩
      rw [HF.out]
      have HV7 := Lib.hid (HV6.out.updD hu7)
      have HO7 := Lib.hid (HO6.out.updD hu7)
      have HT7 := Lib.hid (HT6.out.upd hu7)
      have HUG := Lib.hid (HUF.out.trans hu7)
      clear hu7 HUF HV6 HO6 HT6
      go_wp2_with fail
      refine (number_any l _ kind _ (AvsAt.of_own (HV7.out.own bkCAvps_len)) HLM.out).mono ?_
      rintro e wa ⟨rfl, hua⟩
      rw [HC.out]
      have HVa := Lib.hid (HV7.out.updD hua)
      have HOa := Lib.hid (HO7.out.updD hua)
      have HTa := Lib.hid (HT7.out.upd hua)
      have HUa := Lib.hid (HUG.out.trans hua)
      clear hua HUG HV7 HO7 HT7
      go_wp2_with fail
      refine (rnumber18_any l _ kind _ (HL1.out.upd HUa.out) HLM.out).mono ?_
      rintro e wb ⟨rfl, hub⟩
      rw [HC.out]
      have HVb := Lib.hid (HVa.out.updD hub)
      have HOb := Lib.hid (HOa.out.updD hub)
      have HTb := Lib.hid (HTa.out.upd hub)
      have HUb := Lib.hid (HUa.out.trans hub)
      clear hub HUa HVa HOa HTa
      go_wp2_with fail
      refine (bkSameAvps r0 _ _ _ (HOb.out.rdB (bkCAvps_one _)) HTb.out.rd).mono ?_
      rintro e w9 ⟨rfl, x9, hx9⟩
      have hu9 : Upd [] wb w9 := hx9 ▸ (Upd.refl _ _).drewN x9
      have HV9 := Lib.hid (HVb.out.updD hu9)
      have HO9 := Lib.hid (HOb.out.updD hu9)
      have HUH := Lib.hid (HUb.out.trans hu9)
      clear hu9 hx9 HUb HVb HOb HTb
      go_wp2_with fail
      refine (same_av l m _ _ _ (AvsAt.of_own (HV9.out.own bkCAvps_len)) (HM1.out.upd HUH.out)).mono ?_
      rintro e w10 ⟨rfl, hu10⟩
      rw [← HSB.out]
      have HV10 := Lib.hid (HV9.out.updD hu10)
      have HO10 := Lib.hid (HO9.out.updD hu10)
      have HUI := Lib.hid (HUH.out.trans hu10)
      clear hu10 HUH HV9 HO9
      go_wp2_with fail
      refine (rsame18_any l m _ _ _ (HL1.out.upd HUI.out) (HM1.out.upd HUI.out)).mono ?_
      rintro e w11 ⟨rfl, hu11⟩
      rw [← HSB.out]
      have HV11 := Lib.hid (HV10.out.updD hu11)
      have HO11 := Lib.hid (HO10.out.updD hu11)
      have HUJ := Lib.hid (HUI.out.trans hu11)
      clear hu11 HUI HV10 HO10
      go_wp2_with fail
      refine (bkStaysAvps l _ _ own1 _ HV11.out (HL1.out.upd HUJ.out).rd).mono ?_
      rintro e w12 ⟨rfl, hu12⟩
      have HO12 := Lib.hid (HO11.out.updD hu12)
      have HUK := Lib.hid (HUJ.out.trans hu12)
      clear hu12 HUJ HV11 HO11
      go_wp2_with fail
      refine ((HBK.out.upd HUK.out).addAvps ⟨v4, r0, own4⟩ HO12.out (by have := HRL.out; show r0.length ≤ _; omega) (fun y hy => Nat.le_trans HBK.out.ups.size (HF4.out y hy)) (fun d hd y hy hy2 => by
        have h1 := HBK.out.ltAvps d hd y hy
        have h2 := HF4.out y hy2
        omega) (by simp) (by simp)).mono ?_
      rintro e w13 ⟨rfl, hb13, -⟩
      have HB13 := Lib.hid hb13
      clear hb13
      go_wp2_with fail
      go_roundg (2 - (k + 1))
      case rel => exact ⟨k + 1, _, by omega, by go_num, HB13.out⟩
      case measure => omega
    · obtain rfl : k = 2 := by omega
      go_wp2_with fail
      refine (alive18_any _).mono ?_
      rintro e w1 ⟨rfl, hu1⟩
      have HB1 := Lib.hid (HBK.out.upd hu1)
      clear hu1
      go_wp2_with fail
      refine (apartA_any HB1.out).mono ?_
      rintro e w2 ⟨rfl, hu2⟩
      have HU2 := Lib.hid hu2
      clear hu2
      have hse : (an == an) = true := by simp
      go_wp2_with fail
      refine (numBoth kind x n HX.out _).mono ?_
      rintro e w3 ⟨rfl, hu3⟩
      rw [HAN.out]
      have HU3 := Lib.hid (HU2.out.trans hu3)
      clear hu3
      obtain ⟨a0, a1, a2, a3, a4⟩ := an
      simp only [Av.agg]
      go_wp2_with fail
      refine (rnumBoth kind x n HX.out _).mono ?_
      rintro e w4 ⟨rfl, hu4⟩
      rw [HAN.out]
      have HU4 := Lib.hid (HU3.out.trans hu4)
      clear hu4
      simp only [Av.agg]
      go_wp2_with fail
      refine (length_any kind _).mono ?_
      rintro e w5 ⟨rfl, hu5⟩
      rw [HAL.out]
      have HU5 := Lib.hid (HU4.out.trans hu5)
      clear hu5
      go_wp2_with fail
      refine (rlen18_any kind _).mono ?_
      rintro e w6 ⟨rfl, hu6⟩
      rw [HAL.out]
      have HU6 := Lib.hid (HU5.out.trans hu6)
      clear hu6
      go_wp2_with fail
      go_ret
      exact ⟨rfl, HU6.out⟩
end Go.Proofs.YtfbdbebahpemhaaGreat
