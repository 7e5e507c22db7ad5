/- The walks of avp.shown, avp.one. -/
import Derived.Test.YtglafpdealjlnaaGreatQAvpC
namespace Go.Proofs.YtglafpdealjlnaaGreat
open Go.RowKit
set_option linter.unusedSimpArgs false
set_option linter.unusedVariables false
set_option maxRecDepth 100000

/-! ### bits -/
theorem nat_and_shift (m c k : Nat) : m &&& (c * 2 ^ k) = ((m / 2 ^ k) &&& c) * 2 ^ k := by
  apply Nat.eq_of_testBit_eq
  intro i
  rw [Nat.testBit_and, Nat.testBit_mul_two_pow, Nat.testBit_mul_two_pow, Nat.testBit_and, Nat.testBit_div_two_pow]
  by_cases h : k ≤ i
  · simp [h, show i - k + k = i by omega]
  · simp [h]
theorem i64_and_nat (m c : Nat) (hm : m < 65536) (hc : c < 65536) : bits .and .i64 (m : Int) (c : Int) = ((m &&& c : Nat) : Int) := by
  have h1 : (BitVec.ofInt 64 (m : Int)).toNat = m := by
    rw [BitVec.toNat_ofInt]
    omega
  have h2 : (BitVec.ofInt 64 (c : Int)).toNat = c := by
    rw [BitVec.toNat_ofInt]
    omega
  show IntKind.i64.wrap ((BitVec.ofInt 64 (m : Int) &&& BitVec.ofInt 64 (c : Int)).toNat : Nat) = _
  rw [BitVec.toNat_and, h1, h2]
  have : m &&& c ≤ m := Nat.and_le_left
  exact IntWalk.i64_in _ (by omega)
theorem and_must (m : Nat) (hm : m < 65536) : (bits .and .i64 (m : Int) 32768 != 0) = decide (32768 ≤ m) := by
  rw [show (32768 : Int) = ((32768 : Nat) : Int) from rfl, i64_and_nat m 32768 hm (by decide), show (32768 : Nat) = 1 * 2 ^ 15 from rfl, nat_and_shift, Nat.and_one_is_mod]
  by_cases h : 1 * 2 ^ 15 ≤ m
  · have : m / 2 ^ 15 % 2 = 1 := by omega
    simp [this, h]
    all_goals omega
  · have : m / 2 ^ 15 % 2 = 0 := by omega
    simp [this]
    omega
theorem and_hide (m : Nat) (hm : m < 65536) : (bits .and .i64 (m : Int) 16384 != 0) = decide (m / 16384 % 2 = 1) := by
  rw [show (16384 : Int) = ((16384 : Nat) : Int) from rfl, i64_and_nat m 16384 hm (by decide), show (16384 : Nat) = 1 * 2 ^ 14 from rfl, nat_and_shift, Nat.and_one_is_mod]
  by_cases h : m / (1 * 2 ^ 14) % 2 = 1
  · have : m / 2 ^ 14 % 2 = 1 := by simpa using h
    simp [this]
  · have : m / 2 ^ 14 % 2 = 0 := by simp at h; omega
    simp [this]
theorem and_odd (m : Nat) (hm : m < 65536) : (bits .and .i64 (m : Int) 15360 != 0) = decide (m / 1024 % 16 ≠ 0) := by
  rw [show (15360 : Int) = ((15360 : Nat) : Int) from rfl, i64_and_nat m 15360 hm (by decide), show (15360 : Nat) = (2 ^ 4 - 1) * 2 ^ 10 from rfl, nat_and_shift, Nat.and_two_pow_sub_one_eq_mod]
  by_cases h : m / 1024 % 16 = 0
  · simp [h]
  · simp [h]
    omega
theorem and_low (m : Nat) (hm : m < 65536) : bits .and .i64 (m : Int) 1023 = ((m % 1024 : Nat) : Int) := by
  rw [show (1023 : Int) = ((1023 : Nat) : Int) from rfl, i64_and_nat m 1023 hm (by decide), show (1023 : Nat) = 2 ^ 10 - 1 from rfl, Nat.and_two_pow_sub_one_eq_mod]

/-- What a hidden value tells. -/
def shownA (kind : Int) (b secret : ByteArray) (ahead : List Av) : ByteArray × Int :=
  if secret.size = 0 then (⟨#[]⟩, 30) else if (vec ahead).2 = false then (⟨#[]⟩, 40) else
  if (maskB true kind secret (vec ahead).1 b).size < 2 ∨ num (maskB true kind secret (vec ahead).1 b) 0 2 ≠ (maskB true kind secret (vec ahead).1 b).size - 2 then (⟨#[]⟩, 4)
  else ((maskB true kind secret (vec ahead).1 b).extract 2 (maskB true kind secret (vec ahead).1 b).size, 0)

set_option maxHeartbeats 2000000 in
theorem shown_any (kind : Int) (b : ByteArray) (l : List Av) (v : Value) (secret : ByteArray) (w : World) (hl : AvsAt w v l) (hk : 0 ≤ kind ∧ kind < 65536) (hb : b.size ≤ 400000) (hs : secret.size ≤ 400000) (hvz : (vec l).1.size ≤ 400000) :
    Calls Tryz.prog 308 #[.int .i64 kind, .string b, .string secret, v] w fun e w' => e = .returned (.tuple #[.string (shownA kind b secret l).1, .int .i64 (shownA kind b secret l).2]) ∧ Upd [] w w' := by
  obtain ⟨ao, cap, rfl, _⟩ := id hl
  have HL := Lib.hid hl
  obtain ⟨R, hR⟩ : ∃ R, shownA kind b secret l = R := ⟨_, rfl⟩
  have HR := Lib.hid hR
  rw [hR]
  obtain ⟨n, hn⟩ : ∃ n, l.length = n := ⟨_, rfl⟩
  rw [hn]
  have HN := Lib.hid hn
  clear hR hl hn
  simp only [shownA] at HR
  by_cases t3 : secret.size = 0
  · have hr := HR.out
    rw [if_pos t3] at hr
    subst hr
    clear HR
    have e0 := str_empty_t t3
    clear t3
    go_enter Tryz.func308, Tryz.ntmps308
    go_wp2_with fail
    go_ret2
    exact ⟨rfl, Upd.refl _ _⟩
  have HR5 : Hid (_ = R) := (if_neg t3).symm.trans HR.out
  have e0 := str_empty_f t3
  clear HR t3
  have HV := Lib.hid (vector_any l (.slice ao n cap) w (by rw [← HN.out]; exact HL.out))
  obtain ⟨vv, vb, hvv⟩ : ∃ vv vb, vec l = (vv, vb) := ⟨_, _, rfl⟩
  rw [hvv] at HR5 HV hvz
  dsimp only at HR5 HV hvz
  clear hvv
  cases vb
  · have hr := HR5.out
    rw [if_pos rfl] at hr
    subst hr
    clear HR5
    go_enter Tryz.func308, Tryz.ntmps308
    go_wp2_with fail
    refine HV.out.mono ?_
    rintro e w' ⟨rfl, hu⟩
    go_wp2_with fail
    go_ret2
    exact ⟨rfl, hu⟩
  have HR6 : Hid (_ = R) := (if_neg (by simp)).symm.trans HR5.out
  clear HR5
  have HM := Lib.hid (unmask_any kind secret vv b hk hs hvz hb)
  have hmz := maskB_size true kind secret vv b
  generalize maskB true kind secret vv b = s at *
  have hsz : s.size ≤ 400000 := by omega
  clear hmz
  by_cases t1 : s.size < 2
  · have hr := HR6.out
    rw [if_pos (.inl t1)] at hr
    subst hr
    clear HR6
    have t1' : (s.size : Int) < 2 := by omega
    go_enter Tryz.func308, Tryz.ntmps308
    go_wp2_with fail
    refine HV.out.mono ?_
    rintro e w1 ⟨rfl, hu⟩
    go_wp2_with fail
    refine (HM.out _).mono ?_
    rintro e w2 ⟨rfl, hu2⟩
    go_wp2_with fail
    go_ret2
    exact ⟨rfl, hu.trans hu2⟩
  have t1' : ¬ (s.size : Int) < 2 := by omega
  have HNUM := Lib.hid (avpNum_any s 0 (by simp only [maxLen]; omega) (by omega))
  by_cases t2 : num s 0 2 = s.size - 2
  · have hr := HR6.out
    rw [if_neg (by rintro (h | h); exact t1 h; exact h t2)] at hr
    subst hr
    clear HR6
    have T2 := Lib.hid t2
    obtain ⟨m, hm⟩ : ∃ m : Int, num s 0 2 = m := ⟨_, rfl⟩
    rw [hm] at t2 HNUM
    have t2' : (m != (s.size : Int) - 2) = false := by simp [t2]
    clear hm t2
    go_enter Tryz.func308, Tryz.ntmps308
    go_wp2_with fail
    refine HV.out.mono ?_
    rintro e w1 ⟨rfl, hu⟩
    go_wp2_with fail
    refine (HM.out _).mono ?_
    rintro e w2 ⟨rfl, hu2⟩
    go_wp2_with fail
    refine (HNUM.out _).mono ?_
    rintro e w3 ⟨rfl, rfl⟩
    go_wp2_with fail
    go_ret2
    exact ⟨rfl, hu.trans hu2⟩
  · have hr := HR6.out
    rw [if_pos (.inr t2)] at hr
    subst hr
    clear HR6
    obtain ⟨m, hm⟩ : ∃ m : Int, num s 0 2 = m := ⟨_, rfl⟩
    rw [hm] at t2 HNUM
    have t2' : (m != (s.size : Int) - 2) = true := by simp [t2]
    clear hm t2
    go_enter Tryz.func308, Tryz.ntmps308
    go_wp2_with fail
    refine HV.out.mono ?_
    rintro e w1 ⟨rfl, hu⟩
    go_wp2_with fail
    refine (HM.out _).mono ?_
    rintro e w2 ⟨rfl, hu2⟩
    go_wp2_with fail
    refine (HNUM.out _).mono ?_
    rintro e w3 ⟨rfl, rfl⟩
    go_wp2_with fail
    go_ret2
    exact ⟨rfl, hu.trans hu2⟩

def zeroAv : Av := ⟨false, false, 0, 0, ⟨#[]⟩⟩
/-- The value at the front, how many bytes it has, the error. -/
def oneA (b secret : ByteArray) (ahead : List Av) : Av × Nat × Int :=
  if b.size < 6 then (zeroAv, 0, 5) else
  let m := (num b 0 2).toNat
  if m / 1024 % 16 ≠ 0 ∨ m % 1024 < 6 then (zeroAv, 0, 4) else
  if b.size < m % 1024 then (zeroAv, 0, 5) else
  if (if m / 16384 % 2 = 1 then 1008 else 1006) < m % 1024 ∨ 40 ≤ ahead.length then (zeroAv, 0, 2) else
  if m / 16384 % 2 = 1 then
    (if (shownA (num b 4 2) (b.extract 6 (m % 1024)) secret ahead).2 ≠ 0 then (zeroAv, 0, (shownA (num b 4 2) (b.extract 6 (m % 1024)) secret ahead).2)
     else (⟨decide (32768 ≤ m), true, num b 2 2, num b 4 2, (shownA (num b 4 2) (b.extract 6 (m % 1024)) secret ahead).1⟩, m % 1024, 0))
  else (⟨decide (32768 ≤ m), false, num b 2 2, num b 4 2, b.extract 6 (m % 1024)⟩, m % 1024, 0)

set_option maxHeartbeats 4000000 in
theorem one_any (b : ByteArray) (l : List Av) (v : Value) (secret : ByteArray) (w : World) (hl : AvsAt w v l) (hb : b.size ≤ 400000) (hs : secret.size ≤ 400000) (hvz : (vec l).1.size ≤ 400000) :
    Calls Tryz.prog 236 #[.string b, .string secret, v] w fun e w' => e = .returned (.tuple #[(oneA b secret l).1.agg, .int .i64 (oneA b secret l).2.1, .int .i64 (oneA b secret l).2.2]) ∧ Upd [] w w' := by
  obtain ⟨ao, cap, rfl, _⟩ := id hl
  have HL := Lib.hid hl
  obtain ⟨R, hR⟩ : ∃ R, oneA b secret l = R := ⟨_, rfl⟩
  have HR := Lib.hid hR
  rw [hR]
  obtain ⟨n, hn⟩ : ∃ n, l.length = n := ⟨_, rfl⟩
  rw [hn]
  have HN := Lib.hid hn
  clear hR hl
  simp only [oneA] at HR
  rw [hn] at HR
  clear hn
  by_cases t1 : b.size < 6
  · have hr := HR.out
    rw [if_pos t1] at hr
    subst hr
    clear HR
    have t1' : (b.size : Int) < 6 := by omega
    simp only [zeroAv, Av.agg]
    go_enter Tryz.func236, Tryz.ntmps236
    go_wp2_with fail
    exact bodyPost_ret (v := .tuple #[.agg #[.bool false, .bool false, .int .i64 0, .int .i64 0, .string ⟨#[]⟩], .int .i64 0, .int .i64 5]) (by simp [results, Tryz.results236, go_sem]) rfl ⟨rfl, (Upd.refl _ _).alloc _⟩
  have t1' : ¬ (b.size : Int) < 6 := by omega
  have HR1 : Hid (_ = R) := (if_neg t1).symm.trans HR.out
  clear HR t1
  have hmb : (0 ≤ num b 0 2 ∧ num b 0 2 < 256 ^ 2) := num_bd b 0 2
  have hvb : (0 ≤ num b 2 2 ∧ num b 2 2 < 256 ^ 2) := num_bd b 2 2
  have hkb : (0 ≤ num b 4 2 ∧ num b 4 2 < 256 ^ 2) := num_bd b 4 2
  have HN0 := Lib.hid (avpNum_any b 0 (by simp only [maxLen]; omega) (by omega))
  have HN2 := Lib.hid (avpNum_any b 2 (by simp only [maxLen]; omega) (by omega))
  have HN4 := Lib.hid (avpNum_any b 4 (by simp only [maxLen]; omega) (by omega))
  generalize num b 2 2 = ve at *
  generalize num b 4 2 = kd at *
  obtain ⟨m, hm⟩ : ∃ m : Nat, num b 0 2 = m := Int.eq_ofNat_of_zero_le hmb.1
  rw [hm] at hmb HN0 HR1
  rw [Int.toNat_natCast] at HR1
  have hm6 : m < 65536 := by omega
  have bm := and_must m hm6
  have bh := and_hide m hm6
  have bo := and_odd m hm6
  have bl := and_low m hm6
  have hkb' : 0 ≤ kd ∧ kd < 65536 := by omega
  have HKB := Lib.hid hkb'
  have hn6 : m % 1024 < 1024 := Nat.mod_lt _ (by decide)
  generalize m % 1024 = nn at *
  generalize decide (32768 ≤ m) = mu at *
  clear hm hmb hvb hkb hkb'
  by_cases t2 : m / 1024 % 16 ≠ 0 ∨ nn < 6
  · have hr := HR1.out
    rw [if_pos t2] at hr
    subst hr
    clear HR1
    simp only [zeroAv, Av.agg]
    by_cases t3 : m / 1024 % 16 ≠ 0
    · have bo' : (bits .and .i64 (m : Int) 15360 != 0) = true := by rw [bo]; simpa using t3
      clear bo t2 t3
      by_cases th : m / 16384 % 2 = 1
      · have bh' : (bits .and .i64 (m : Int) 16384 != 0) = true := by rw [bh]; simpa using th
        clear bh th
        go_enter Tryz.func236, Tryz.ntmps236
        go_wp2_with fail
        refine (HN0.out _).mono ?_
        rintro e w1 ⟨rfl, rfl⟩
        go_wp2_with fail
        refine (HN2.out _).mono ?_
        rintro e w1 ⟨rfl, rfl⟩
        go_wp2_with fail
        refine (HN4.out _).mono ?_
        rintro e w1 ⟨rfl, rfl⟩
        go_wp2_with fail
        exact bodyPost_ret (v := .tuple #[.agg #[.bool false, .bool false, .int .i64 0, .int .i64 0, .string ⟨#[]⟩], .int .i64 0, .int .i64 4]) (by simp [results, Tryz.results236, go_sem]) rfl ⟨rfl, (by repeat (first | refine Upd.setCell _ ?_ (.inr (by simp)) | refine Upd.alloc _ ?_ | exact Upd.refl _ _))⟩
      · have bh' : (bits .and .i64 (m : Int) 16384 != 0) = false := by rw [bh]; simpa using th
        clear bh th
        go_enter Tryz.func236, Tryz.ntmps236
        go_wp2_with fail
        refine (HN0.out _).mono ?_
        rintro e w1 ⟨rfl, rfl⟩
        go_wp2_with fail
        refine (HN2.out _).mono ?_
        rintro e w1 ⟨rfl, rfl⟩
        go_wp2_with fail
        refine (HN4.out _).mono ?_
        rintro e w1 ⟨rfl, rfl⟩
        go_wp2_with fail
        exact bodyPost_ret (v := .tuple #[.agg #[.bool false, .bool false, .int .i64 0, .int .i64 0, .string ⟨#[]⟩], .int .i64 0, .int .i64 4]) (by simp [results, Tryz.results236, go_sem]) rfl ⟨rfl, (by repeat (first | refine Upd.setCell _ ?_ (.inr (by simp)) | refine Upd.alloc _ ?_ | exact Upd.refl _ _))⟩
    · have bo' : (bits .and .i64 (m : Int) 15360 != 0) = false := by rw [bo]; simpa using t3
      have t4 : nn < 6 := by omega
      have t4' : (nn : Int) < 6 := by omega
      clear bo t2 t3
      by_cases th : m / 16384 % 2 = 1
      · have bh' : (bits .and .i64 (m : Int) 16384 != 0) = true := by rw [bh]; simpa using th
        clear bh th
        go_enter Tryz.func236, Tryz.ntmps236
        go_wp2_with fail
        refine (HN0.out _).mono ?_
        rintro e w1 ⟨rfl, rfl⟩
        go_wp2_with fail
        refine (HN2.out _).mono ?_
        rintro e w1 ⟨rfl, rfl⟩
        go_wp2_with fail
        refine (HN4.out _).mono ?_
        rintro e w1 ⟨rfl, rfl⟩
        go_wp2_with fail
        exact bodyPost_ret (v := .tuple #[.agg #[.bool false, .bool false, .int .i64 0, .int .i64 0, .string ⟨#[]⟩], .int .i64 0, .int .i64 4]) (by simp [results, Tryz.results236, go_sem]) rfl ⟨rfl, (by repeat (first | refine Upd.setCell _ ?_ (.inr (by simp)) | refine Upd.alloc _ ?_ | exact Upd.refl _ _))⟩
      · have bh' : (bits .and .i64 (m : Int) 16384 != 0) = false := by rw [bh]; simpa using th
        clear bh th
        go_enter Tryz.func236, Tryz.ntmps236
        go_wp2_with fail
        refine (HN0.out _).mono ?_
        rintro e w1 ⟨rfl, rfl⟩
        go_wp2_with fail
        refine (HN2.out _).mono ?_
        rintro e w1 ⟨rfl, rfl⟩
        go_wp2_with fail
        refine (HN4.out _).mono ?_
        rintro e w1 ⟨rfl, rfl⟩
        go_wp2_with fail
        exact bodyPost_ret (v := .tuple #[.agg #[.bool false, .bool false, .int .i64 0, .int .i64 0, .string ⟨#[]⟩], .int .i64 0, .int .i64 4]) (by simp [results, Tryz.results236, go_sem]) rfl ⟨rfl, (by repeat (first | refine Upd.setCell _ ?_ (.inr (by simp)) | refine Upd.alloc _ ?_ | exact Upd.refl _ _))⟩
  have HR2 : Hid (_ = R) := (if_neg t2).symm.trans HR1.out
  have bo' : (bits .and .i64 (m : Int) 15360 != 0) = false := by rw [bo]; simp only [decide_eq_false_iff_not]; intro h; exact t2 (.inl h)
  have hnn : ¬ nn < 6 := fun h => t2 (.inr h)
  have hnn' : ¬ (nn : Int) < 6 := by omega
  clear HR1 bo t2
  by_cases t3 : b.size < nn
  · have hr := HR2.out
    rw [if_pos t3] at hr
    subst hr
    clear HR2
    simp only [zeroAv, Av.agg]
    have t3' : (b.size : Int) < nn := by omega
    by_cases th : m / 16384 % 2 = 1
    · have bh' : (bits .and .i64 (m : Int) 16384 != 0) = true := by rw [bh]; simpa using th
      clear bh th
      go_enter Tryz.func236, Tryz.ntmps236
      go_wp2_with fail
      refine (HN0.out _).mono ?_
      rintro e w1 ⟨rfl, rfl⟩
      go_wp2_with fail
      refine (HN2.out _).mono ?_
      rintro e w1 ⟨rfl, rfl⟩
      go_wp2_with fail
      refine (HN4.out _).mono ?_
      rintro e w1 ⟨rfl, rfl⟩
      go_wp2_with fail
      exact bodyPost_ret (v := .tuple #[.agg #[.bool false, .bool false, .int .i64 0, .int .i64 0, .string ⟨#[]⟩], .int .i64 0, .int .i64 5]) (by simp [results, Tryz.results236, go_sem]) rfl ⟨rfl, (by repeat (first | refine Upd.setCell _ ?_ (.inr (by simp)) | refine Upd.alloc _ ?_ | exact Upd.refl _ _))⟩
    · have bh' : (bits .and .i64 (m : Int) 16384 != 0) = false := by rw [bh]; simpa using th
      clear bh th
      go_enter Tryz.func236, Tryz.ntmps236
      go_wp2_with fail
      refine (HN0.out _).mono ?_
      rintro e w1 ⟨rfl, rfl⟩
      go_wp2_with fail
      refine (HN2.out _).mono ?_
      rintro e w1 ⟨rfl, rfl⟩
      go_wp2_with fail
      refine (HN4.out _).mono ?_
      rintro e w1 ⟨rfl, rfl⟩
      go_wp2_with fail
      exact bodyPost_ret (v := .tuple #[.agg #[.bool false, .bool false, .int .i64 0, .int .i64 0, .string ⟨#[]⟩], .int .i64 0, .int .i64 5]) (by simp [results, Tryz.results236, go_sem]) rfl ⟨rfl, (by repeat (first | refine Upd.setCell _ ?_ (.inr (by simp)) | refine Upd.alloc _ ?_ | exact Upd.refl _ _))⟩
  have t3' : ¬ (b.size : Int) < nn := by omega
  have HR3 : Hid (_ = R) := (if_neg t3).symm.trans HR2.out
  clear HR2
  have hbx : (b.extract 6 nn).size ≤ 400000 := by rw [ByteArray.size_extract]; omega
  by_cases th : m / 16384 % 2 = 1
  · have HR4 : Hid ((if 1008 < nn ∨ 40 ≤ n then (zeroAv, 0, 2) else (if (shownA kd (b.extract 6 nn) secret l).2 ≠ 0 then (zeroAv, 0, (shownA kd (b.extract 6 nn) secret l).2) else (⟨mu, true, ve, kd, (shownA kd (b.extract 6 nn) secret l).1⟩, nn, 0))) = R) := by
      have := HR3.out
      simp only [th, if_true] at this
      exact this
    clear HR3
    have bh' : (bits .and .i64 (m : Int) 16384 != 0) = true := by rw [bh]; simpa using th
    clear bh th
    by_cases t4 : 1008 < nn ∨ 40 ≤ n
    · have hr := HR4.out
      rw [if_pos t4] at hr
      subst hr
      clear HR4
      simp only [zeroAv, Av.agg]
      by_cases t5 : 1008 < nn
      · have t5' : (1008 : Int) < nn := by omega
        clear t4
        go_enter Tryz.func236, Tryz.ntmps236
        go_wp2_with fail
        refine (HN0.out _).mono ?_
        rintro e w1 ⟨rfl, rfl⟩
        go_wp2_with fail
        refine (HN2.out _).mono ?_
        rintro e w1 ⟨rfl, rfl⟩
        go_wp2_with fail
        refine (HN4.out _).mono ?_
        rintro e w1 ⟨rfl, rfl⟩
        go_wp2_with fail
        exact bodyPost_ret (v := .tuple #[.agg #[.bool false, .bool false, .int .i64 0, .int .i64 0, .string ⟨#[]⟩], .int .i64 0, .int .i64 2]) (by simp [results, Tryz.results236, go_sem]) rfl ⟨rfl, (by repeat (first | refine Upd.setCell _ ?_ (.inr (by simp)) | refine Upd.alloc _ ?_ | exact Upd.refl _ _))⟩
      · have t5' : ¬ (1008 : Int) < nn := by omega
        have t6 : 40 ≤ n := by omega
        have t6' : (40 : Int) ≤ n := by omega
        clear t4
        go_enter Tryz.func236, Tryz.ntmps236
        go_wp2_with fail
        refine (HN0.out _).mono ?_
        rintro e w1 ⟨rfl, rfl⟩
        go_wp2_with fail
        refine (HN2.out _).mono ?_
        rintro e w1 ⟨rfl, rfl⟩
        go_wp2_with fail
        refine (HN4.out _).mono ?_
        rintro e w1 ⟨rfl, rfl⟩
        go_wp2_with fail
        exact bodyPost_ret (v := .tuple #[.agg #[.bool false, .bool false, .int .i64 0, .int .i64 0, .string ⟨#[]⟩], .int .i64 0, .int .i64 2]) (by simp [results, Tryz.results236, go_sem]) rfl ⟨rfl, (by repeat (first | refine Upd.setCell _ ?_ (.inr (by simp)) | refine Upd.alloc _ ?_ | exact Upd.refl _ _))⟩
    have HR5 : Hid (_ = R) := (if_neg t4).symm.trans HR4.out
    have t5' : ¬ (1008 : Int) < nn := by omega
    have t6' : ¬ (40 : Int) ≤ n := by omega
    clear t4 HR4
    obtain ⟨x, hx⟩ : ∃ x, b.extract 6 nn = x := ⟨_, rfl⟩
    rw [hx] at hbx HR5
    have HCL := Lib.hid (clone_any x)
    have HS : Hid (∀ W, Upd [] w W → Calls Tryz.prog 308 #[.int .i64 kd, .string x, .string secret, .slice ao n cap] W fun e w' => e = .returned (.tuple #[.string (shownA kd x secret l).1, .int .i64 (shownA kd x secret l).2]) ∧ Upd [] W w') :=
      fun W hW => shown_any kd x l _ secret W ((show AvsAt w (.slice ao n cap) l from by rw [← HN.out]; exact HL.out).upd hW) HKB.out hbx hs hvz
    obtain ⟨y, er, hye⟩ : ∃ y er, shownA kd x secret l = (y, er) := ⟨_, _, rfl⟩
    rw [hye] at HS HR5
    dsimp only at HS HR5
    clear hye
    by_cases t7 : er = 0
    · subst er
      have hr := HR5.out
      rw [if_neg (by simp)] at hr
      subst hr
      clear HR5
      simp only [Av.agg]
      go_enter Tryz.func236, Tryz.ntmps236
      go_wp2_with fail
      refine (HN0.out _).mono ?_
      rintro e w1 ⟨rfl, rfl⟩
      go_wp2_with fail
      refine (HN2.out _).mono ?_
      rintro e w1 ⟨rfl, rfl⟩
      go_wp2_with fail
      refine (HN4.out _).mono ?_
      rintro e w1 ⟨rfl, rfl⟩
      go_wp2_with fail
      have HU1 := Lib.hid ((((Upd.refl [] w).alloc (Obj.cells #[.bool false, .bool false, .int .i64 0, .int .i64 0, .string ⟨#[]⟩] 85)).alloc (Obj.cells #[.bool mu, .bool true, .int .i64 ve, .int .i64 kd, .string ⟨#[]⟩] 85)))
      have B1 := (Blk.new w 85 #[.bool false, .bool false, .int .i64 0, .int .i64 0, .string ⟨#[]⟩]).alloc (Obj.cells #[.bool mu, .bool true, .int .i64 ve, .int .i64 kd, .string ⟨#[]⟩] 85)
      have B2 := Blk.new (w.alloc (Obj.cells #[.bool false, .bool false, .int .i64 0, .int .i64 0, .string ⟨#[]⟩] 85)) 85 #[.bool mu, .bool true, .int .i64 ve, .int .i64 kd, .string ⟨#[]⟩]
      rw [World.size_alloc] at B2
      refine (HCL.out _ (by omega)).mono ?_
      rintro e w1 ⟨rfl, hu1⟩
      replace B1 := B1.upd hu1 (by simp)
      replace B2 := B2.upd hu1 (by simp)
      have HU2 := Lib.hid (HU1.out.trans hu1)
      have HB1 := Lib.hid B1
      have HB2 := Lib.hid B2
      have c0 := B1.cell 0
      have c1 := B1.cell 1
      have c2 := B1.cell 2
      have c3 := B1.cell 3
      have c4 := B1.cell 4
      have f0 := B1.frozen 0
      have f1 := B1.frozen 1
      have f2 := B1.frozen 2
      have f3 := B1.frozen 3
      have f4 := B1.frozen 4
      have d0 := B2.cell 0
      have d1 := B2.cell 1
      have d2 := B2.cell 2
      have d3 := B2.cell 3
      have d4 := B2.cell 4
      have g4 := B2.frozen 4
      simp only [List.size_toArray, List.length_cons, List.length_nil, List.getElem?_toArray, List.getElem?_cons_zero, List.getElem?_cons_succ] at c0 c1 c2 c3 c4 d0 d1 d2 d3 d4
      clear B1 B2 hu1 HU1
      go_wp2_with fail
      have HU3 : Hid (Upd [] w (w1.setCell ⟨w.heap.size + 1, 4, none⟩ (.string x))) := HU2.out.setCell _ (.inr (by simp))
      have B1 := HB1.out.far (p := ⟨w.heap.size + 1, 4, none⟩) (.string x) (by simp)
      have B2 := HB2.out.set_ 4 (.string x)
      simp only [List.setIfInBounds_toArray, List.set_cons_zero, List.set_cons_succ] at B2
      clear c0 c1 c2 c3 c4 f0 f1 f2 f3 f4 d0 d1 d2 d3 d4 g4 HB1 HB2 HU2
      generalize w1.setCell ⟨w.heap.size + 1, 4, none⟩ (.string x) = w2 at *
      refine (HS.out _ HU3.out).mono ?_
      rintro e w3 ⟨rfl, hu3⟩
      replace B1 := B1.upd hu3 (by simp)
      replace B2 := B2.upd hu3 (by simp)
      have HU4 := Lib.hid (HU3.out.trans hu3)
      have c0 := B1.cell 0
      have c1 := B1.cell 1
      have c2 := B1.cell 2
      have c3 := B1.cell 3
      have c4 := B1.cell 4
      have f0 := B1.frozen 0
      have f1 := B1.frozen 1
      have f2 := B1.frozen 2
      have f3 := B1.frozen 3
      have f4 := B1.frozen 4
      have d0 := B2.cell 0
      have d1 := B2.cell 1
      have d2 := B2.cell 2
      have d3 := B2.cell 3
      have d4 := B2.cell 4
      have g4 := B2.frozen 4
      simp only [List.size_toArray, List.length_cons, List.length_nil, List.getElem?_toArray, List.getElem?_cons_zero, List.getElem?_cons_succ] at c0 c1 c2 c3 c4 d0 d1 d2 d3 d4
      clear B1 B2 hu3 HU3
      go_wp2_with fail
      exact bodyPost_ret (v := .tuple #[.agg #[.bool mu, .bool true, .int .i64 ve, .int .i64 kd, .string y], .int .i64 nn, .int .i64 0]) (by simp [results, Tryz.results236, go_sem, c0, c1, c2, c3, c4]) rfl ⟨rfl, (by repeat (first | refine Upd.setCell _ ?_ (.inr (by simp)) | exact HU4.out))⟩
    · have t7' : (er != 0) = true := by simpa using t7
      have hr := HR5.out
      rw [if_pos t7] at hr
      subst hr
      clear HR5
      simp only [zeroAv, Av.agg]
      go_enter Tryz.func236, Tryz.ntmps236
      go_wp2_with fail
      refine (HN0.out _).mono ?_
      rintro e w1 ⟨rfl, rfl⟩
      go_wp2_with fail
      refine (HN2.out _).mono ?_
      rintro e w1 ⟨rfl, rfl⟩
      go_wp2_with fail
      refine (HN4.out _).mono ?_
      rintro e w1 ⟨rfl, rfl⟩
      go_wp2_with fail
      have HU1 := Lib.hid ((((Upd.refl [] w).alloc (Obj.cells #[.bool false, .bool false, .int .i64 0, .int .i64 0, .string ⟨#[]⟩] 85)).alloc (Obj.cells #[.bool mu, .bool true, .int .i64 ve, .int .i64 kd, .string ⟨#[]⟩] 85)))
      have B1 := (Blk.new w 85 #[.bool false, .bool false, .int .i64 0, .int .i64 0, .string ⟨#[]⟩]).alloc (Obj.cells #[.bool mu, .bool true, .int .i64 ve, .int .i64 kd, .string ⟨#[]⟩] 85)
      have B2 := Blk.new (w.alloc (Obj.cells #[.bool false, .bool false, .int .i64 0, .int .i64 0, .string ⟨#[]⟩] 85)) 85 #[.bool mu, .bool true, .int .i64 ve, .int .i64 kd, .string ⟨#[]⟩]
      rw [World.size_alloc] at B2
      refine (HCL.out _ (by omega)).mono ?_
      rintro e w1 ⟨rfl, hu1⟩
      replace B1 := B1.upd hu1 (by simp)
      replace B2 := B2.upd hu1 (by simp)
      have HU2 := Lib.hid (HU1.out.trans hu1)
      have HB1 := Lib.hid B1
      have HB2 := Lib.hid B2
      have c0 := B1.cell 0
      have c1 := B1.cell 1
      have c2 := B1.cell 2
      have c3 := B1.cell 3
      have c4 := B1.cell 4
      have f0 := B1.frozen 0
      have f1 := B1.frozen 1
      have f2 := B1.frozen 2
      have f3 := B1.frozen 3
      have f4 := B1.frozen 4
      have d0 := B2.cell 0
      have d1 := B2.cell 1
      have d2 := B2.cell 2
      have d3 := B2.cell 3
      have d4 := B2.cell 4
      have g4 := B2.frozen 4
      simp only [List.size_toArray, List.length_cons, List.length_nil, List.getElem?_toArray, List.getElem?_cons_zero, List.getElem?_cons_succ] at c0 c1 c2 c3 c4 d0 d1 d2 d3 d4
      clear B1 B2 hu1 HU1
      go_wp2_with fail
      have HU3 : Hid (Upd [] w (w1.setCell ⟨w.heap.size + 1, 4, none⟩ (.string x))) := HU2.out.setCell _ (.inr (by simp))
      have B1 := HB1.out.far (p := ⟨w.heap.size + 1, 4, none⟩) (.string x) (by simp)
      have B2 := HB2.out.set_ 4 (.string x)
      simp only [List.setIfInBounds_toArray, List.set_cons_zero, List.set_cons_succ] at B2
      clear c0 c1 c2 c3 c4 f0 f1 f2 f3 f4 d0 d1 d2 d3 d4 g4 HB1 HB2 HU2
      generalize w1.setCell ⟨w.heap.size + 1, 4, none⟩ (.string x) = w2 at *
      refine (HS.out _ HU3.out).mono ?_
      rintro e w3 ⟨rfl, hu3⟩
      replace B1 := B1.upd hu3 (by simp)
      replace B2 := B2.upd hu3 (by simp)
      have HU4 := Lib.hid (HU3.out.trans hu3)
      have c0 := B1.cell 0
      have c1 := B1.cell 1
      have c2 := B1.cell 2
      have c3 := B1.cell 3
      have c4 := B1.cell 4
      have f0 := B1.frozen 0
      have f1 := B1.frozen 1
      have f2 := B1.frozen 2
      have f3 := B1.frozen 3
      have f4 := B1.frozen 4
      have d0 := B2.cell 0
      have d1 := B2.cell 1
      have d2 := B2.cell 2
      have d3 := B2.cell 3
      have d4 := B2.cell 4
      have g4 := B2.frozen 4
      simp only [List.size_toArray, List.length_cons, List.length_nil, List.getElem?_toArray, List.getElem?_cons_zero, List.getElem?_cons_succ] at c0 c1 c2 c3 c4 d0 d1 d2 d3 d4
      clear B1 B2 hu3 HU3
      go_wp2_with fail
      exact bodyPost_ret (v := .tuple #[.agg #[.bool false, .bool false, .int .i64 0, .int .i64 0, .string ⟨#[]⟩], .int .i64 0, .int .i64 er]) (by simp [results, Tryz.results236, go_sem, c0, c1, c2, c3, c4]) rfl ⟨rfl, (by repeat (first | refine Upd.setCell _ ?_ (.inr (by simp)) | exact HU4.out))⟩
  · have HR4 : Hid ((if 1006 < nn ∨ 40 ≤ n then (zeroAv, 0, 2) else (⟨mu, false, ve, kd, b.extract 6 nn⟩, nn, 0)) = R) := by
      have := HR3.out
      simp only [th, if_false] at this
      exact this
    clear HR3
    have bh' : (bits .and .i64 (m : Int) 16384 != 0) = false := by rw [bh]; simpa using th
    clear bh th
    by_cases t4 : 1006 < nn ∨ 40 ≤ n
    · have hr := HR4.out
      rw [if_pos t4] at hr
      subst hr
      clear HR4
      simp only [zeroAv, Av.agg]
      by_cases t5 : 1006 < nn
      · have t5' : (1006 : Int) < nn := by omega
        clear t4
        go_enter Tryz.func236, Tryz.ntmps236
        go_wp2_with fail
        refine (HN0.out _).mono ?_
        rintro e w1 ⟨rfl, rfl⟩
        go_wp2_with fail
        refine (HN2.out _).mono ?_
        rintro e w1 ⟨rfl, rfl⟩
        go_wp2_with fail
        refine (HN4.out _).mono ?_
        rintro e w1 ⟨rfl, rfl⟩
        go_wp2_with fail
        exact bodyPost_ret (v := .tuple #[.agg #[.bool false, .bool false, .int .i64 0, .int .i64 0, .string ⟨#[]⟩], .int .i64 0, .int .i64 2]) (by simp [results, Tryz.results236, go_sem]) rfl ⟨rfl, (by repeat (first | refine Upd.setCell _ ?_ (.inr (by simp)) | refine Upd.alloc _ ?_ | exact Upd.refl _ _))⟩
      · have t5' : ¬ (1006 : Int) < nn := by omega
        have t6 : 40 ≤ n := by omega
        have t6' : (40 : Int) ≤ n := by omega
        clear t4
        go_enter Tryz.func236, Tryz.ntmps236
        go_wp2_with fail
        refine (HN0.out _).mono ?_
        rintro e w1 ⟨rfl, rfl⟩
        go_wp2_with fail
        refine (HN2.out _).mono ?_
        rintro e w1 ⟨rfl, rfl⟩
        go_wp2_with fail
        refine (HN4.out _).mono ?_
        rintro e w1 ⟨rfl, rfl⟩
        go_wp2_with fail
        exact bodyPost_ret (v := .tuple #[.agg #[.bool false, .bool false, .int .i64 0, .int .i64 0, .string ⟨#[]⟩], .int .i64 0, .int .i64 2]) (by simp [results, Tryz.results236, go_sem]) rfl ⟨rfl, (by repeat (first | refine Upd.setCell _ ?_ (.inr (by simp)) | refine Upd.alloc _ ?_ | exact Upd.refl _ _))⟩
    have HR5 : Hid (_ = R) := (if_neg t4).symm.trans HR4.out
    have t5' : ¬ (1006 : Int) < nn := by omega
    have t6' : ¬ (40 : Int) ≤ n := by omega
    clear t4 HR4
    obtain ⟨x, hx⟩ : ∃ x, b.extract 6 nn = x := ⟨_, rfl⟩
    rw [hx] at hbx HR5
    have HCL := Lib.hid (clone_any x)
    have hr := HR5.out
    subst hr
    clear HR5
    simp only [Av.agg]
    go_enter Tryz.func236, Tryz.ntmps236
    go_wp2_with fail
    refine (HN0.out _).mono ?_
    rintro e w1 ⟨rfl, rfl⟩
    go_wp2_with fail
    refine (HN2.out _).mono ?_
    rintro e w1 ⟨rfl, rfl⟩
    go_wp2_with fail
    refine (HN4.out _).mono ?_
    rintro e w1 ⟨rfl, rfl⟩
    go_wp2_with fail
    have HU1 := Lib.hid ((((Upd.refl [] w).alloc (Obj.cells #[.bool false, .bool false, .int .i64 0, .int .i64 0, .string ⟨#[]⟩] 85)).alloc (Obj.cells #[.bool mu, .bool false, .int .i64 ve, .int .i64 kd, .string ⟨#[]⟩] 85)))
    have B1 := (Blk.new w 85 #[.bool false, .bool false, .int .i64 0, .int .i64 0, .string ⟨#[]⟩]).alloc (Obj.cells #[.bool mu, .bool false, .int .i64 ve, .int .i64 kd, .string ⟨#[]⟩] 85)
    have B2 := Blk.new (w.alloc (Obj.cells #[.bool false, .bool false, .int .i64 0, .int .i64 0, .string ⟨#[]⟩] 85)) 85 #[.bool mu, .bool false, .int .i64 ve, .int .i64 kd, .string ⟨#[]⟩]
    rw [World.size_alloc] at B2
    refine (HCL.out _ (by omega)).mono ?_
    rintro e w1 ⟨rfl, hu1⟩
    replace B1 := B1.upd hu1 (by simp)
    replace B2 := B2.upd hu1 (by simp)
    have HU2 := Lib.hid (HU1.out.trans hu1)
    have HB1 := Lib.hid B1
    have HB2 := Lib.hid B2
    have c0 := B1.cell 0
    have c1 := B1.cell 1
    have c2 := B1.cell 2
    have c3 := B1.cell 3
    have c4 := B1.cell 4
    have f0 := B1.frozen 0
    have f1 := B1.frozen 1
    have f2 := B1.frozen 2
    have f3 := B1.frozen 3
    have f4 := B1.frozen 4
    have d0 := B2.cell 0
    have d1 := B2.cell 1
    have d2 := B2.cell 2
    have d3 := B2.cell 3
    have d4 := B2.cell 4
    have g4 := B2.frozen 4
    simp only [List.size_toArray, List.length_cons, List.length_nil, List.getElem?_toArray, List.getElem?_cons_zero, List.getElem?_cons_succ] at c0 c1 c2 c3 c4 d0 d1 d2 d3 d4
    clear B1 B2 hu1 HU1
    go_wp2_with fail
    exact bodyPost_ret (v := .tuple #[.agg #[.bool mu, .bool false, .int .i64 ve, .int .i64 kd, .string x], .int .i64 nn, .int .i64 0]) (by simp [results, Tryz.results236, go_sem, c0, c1, c2, c3, c4]) rfl ⟨rfl, (by repeat (first | refine Upd.setCell _ ?_ (.inr (by simp)) | exact HU2.out))⟩
end Go.Proofs.YtglafpdealjlnaaGreat
