/- The walk of the document's own Get (chapter 18). -/
import Derived.Test.YtglafpdealjlnaaGreatQAvpH
import Derived.Test.YtglafpdealjlnaaGreatQRAvF
import Derived.Test.YtglafpdealjlnaaGreatQStr
namespace Go.Proofs.YtglafpdealjlnaaGreat
open Go.RowKit
set_option linter.unusedSimpArgs false
set_option linter.unusedVariables false
set_option maxRecDepth 100000

theorem newA.next {w0 : World} {t : TypeId} {z cs : Array Value} {vs : List Value} {W W' : World} (h : newA w0 t z cs vs W) (hu : Upd [] W W') : newA w0 t z cs vs W' := by
  unfold newA at h ⊢
  split at h
  · exact h.trans hu
  · obtain ⟨h1, g, h2, h3, h4⟩ := h
    exact ⟨h1.trans hu, g, h2, h3, h4.upd hu (by simp)⟩
  · obtain ⟨h1, g, h2, h3, h4⟩ := h
    exact ⟨h1.trans hu, g, h2, h3, h4.upd hu (by simp)⟩
  · exact h.elim

structure GivesAvs (w : World) (R : List Av × Int) (e : Ending) (w' : World) : Prop where
  ex : ∃ v own, e = .returned (.tuple #[v, .int .i64 R.2]) ∧ Own w' 85 5 v R.1.length (avCells R.1) own ∧ (∀ k ∈ own, w.heap.size ≤ k) ∧ Upd [] w w'
theorem GivesAvs.none {w w' : World} {k : Int} (hu : Upd [] w w') : GivesAvs w ([], k) (.returned (.tuple #[.slice none 0 0, .int .i64 k])) w' :=
  ⟨_, [], rfl, Own.nil _ _ _, by simp, hu⟩
set_option maxHeartbeats 8000000 in
theorem rget18_any (b secret : ByteArray) (w : World) (hb : b.size ≤ 400000) (hs : secret.size ≤ 400000) :
    Calls Tryz.prog 89 #[.string b, .string secret] w (GivesAvs w (getA b secret)) := by
  obtain ⟨i0, hi0, hz0, hz1, hz2⟩ := info_parts info_av
  obtain ⟨R, hR⟩ : ∃ R, getA b secret = R := ⟨_, rfl⟩
  have HR : Hid (getFromA secret b.size b [] = R) := hR
  rw [hR]
  clear hR
  go_enter Tryz.func89, Tryz.ntmps89
  go_wp2_with fail
  go_loopg [0, 6, 7, 8] b.size (fun m s0 s6 s7 s8 wr => ∃ (s vv : ByteArray) (vb : Bool) (out : List Av) (ao : Option Addr) (n cap : Nat) (own : List Nat), s0 = .string s ∧ s7 = .string vv ∧ s8 = .bool vb ∧ s.size = m ∧ s.size ≤ b.size ∧ s6 = .slice ao n cap ∧ n = out.length ∧ n ≤ 40 ∧ (∀ a ∈ out, a.val.size ≤ b.size) ∧ vec out = (vv, vb) ∧ getFromA secret s.size s out = R ∧
    Own wr 85 5 (.slice ao n cap) n (avCells out) own ∧ (∀ k, k ∈ own → w.heap.size ≤ k) ∧ Upd [] w wr)
  case atStart => exact ⟨b, ⟨#[]⟩, false, [], none, 0, 0, [], rfl, rfl, rfl, rfl, Nat.le_refl _, rfl, rfl, by omega, by simp, rfl, HR.out, Own.nil _ _ _, by simp, Upd.refl _ _⟩
  case round =>
    obtain ⟨s, vv, vb, out, ao, n, cap, own, rfl, rfl, rfl, hsm, hsb, rfl, hn, hn40, hall, hv, hg, hown, hin, hu⟩ := hrel
    have HN := Lib.hid hn
    have HO := Lib.hid hown
    have HIN := Lib.hid hin
    have HU := Lib.hid hu
    have hvz : vv.size ≤ b.size := by
      have := vec_size' out b.size hall
      rw [hv] at this
      exact this
    have HALL := Lib.hid hall
    have HV := Lib.hid hv
    have hwz : w.heap.size ≤ wr.heap.size := hu.size
    clear HR hown hin hu hall hv
    by_cases t : s.size = 0
    · have HG : Hid ((out, (0 : Int)) = R) := by show _ = _; rw [← hg, t, getFromA]
      have t' : ¬ (0 : Int) < s.size := by omega
      clear hg hn t
      go_wp2_with fail
      go_ret2
      have hr := HG.out
      subst hr
      exact ⟨⟨_, own, rfl, by rw [← HN.out]; exact HO.out, HIN.out, HU.out⟩⟩
    have tp : (0 : Int) < s.size := by omega
    obtain ⟨z, hz⟩ : ∃ z, s.size = z + 1 := ⟨s.size - 1, by omega⟩
    rw [hz, getFromA, if_neg t] at hg
    have HG := Lib.hid hg
    clear hg
    have HG2 : ∀ e : Int, e ≠ 0 → (oneA s secret out).2.2 = e → R = ([], e) := fun e he h => by
      have hg := HG.out
      rw [h, if_pos he] at hg
      exact hg.symm
    have HGE := Lib.hid HG2
    clear HG2
    have HOE : Hid (oneA s secret out = if s.size < 6 then (zeroAv, 0, 5) else
      if (num s 0 2).toNat / 1024 % 16 ≠ 0 ∨ (num s 0 2).toNat % 1024 < 6 then (zeroAv, 0, 4) else
      if s.size < (num s 0 2).toNat % 1024 then (zeroAv, 0, 5) else
      if (if (num s 0 2).toNat / 16384 % 2 = 1 then 1008 else 1006) < (num s 0 2).toNat % 1024 ∨ 40 ≤ out.length then (zeroAv, 0, 2) else
      if (num s 0 2).toNat / 16384 % 2 = 1 then
        (if (shownA (num s 4 2) (s.extract 6 ((num s 0 2).toNat % 1024)) secret out).2 ≠ 0 then (zeroAv, 0, (shownA (num s 4 2) (s.extract 6 ((num s 0 2).toNat % 1024)) secret out).2)
         else (⟨decide (32768 ≤ (num s 0 2).toNat), true, num s 2 2, num s 4 2, (shownA (num s 4 2) (s.extract 6 ((num s 0 2).toNat % 1024)) secret out).1⟩, (num s 0 2).toNat % 1024, 0))
      else (⟨decide (32768 ≤ (num s 0 2).toNat), false, num s 2 2, num s 4 2, s.extract 6 ((num s 0 2).toNat % 1024)⟩, (num s 0 2).toNat % 1024, 0)) := rfl
    by_cases t1 : s.size < 6
    · have hr := HGE.out 5 (by decide) (by rw [HOE.out, if_pos t1])
      subst hr
      have t1' : (s.size : Int) < 6 := by omega
      clear HG HOE HGE hn
      go_wp2_with fail
      go_ret2
      exact .none HU.out
    have t1' : ¬ (s.size : Int) < 6 := by omega
    have HOE1 := Lib.hid (HOE.out.trans (if_neg t1))
    clear HOE
    have hnb := num_bd s 0 2
    have HNUM := Lib.hid (rnum_any s 0 (by simp only [maxLen]; omega) (by omega))
    obtain ⟨m, hm⟩ : ∃ m : Nat, num s 0 2 = m := Int.eq_ofNat_of_zero_le hnb.1
    rw [hm] at HOE1 HNUM hnb
    rw [Int.toNat_natCast] at HOE1
    have hm2 : m < 65536 := by have := hnb.2; omega
    clear hm hnb
    have HM := Lib.hid hm2
    obtain ⟨nn, hnn⟩ : ∃ x, m % 1024 = x := ⟨_, rfl⟩
    have hnn2 : nn < 1024 := by rw [← hnn]; exact Nat.mod_lt _ (by decide)
    obtain ⟨od, hod⟩ : ∃ x, m / 1024 % 16 = x := ⟨_, rfl⟩
    obtain ⟨hb2, hhb2⟩ : ∃ x, m / 16384 % 2 = x := ⟨_, rfl⟩
    have r1 : (m : Int).tmod 1024 = (nn : Int) := by rw [Int.tmod_eq_emod_of_nonneg (by omega)]; omega
    have r2 : ((m : Int).tdiv 16384).tmod 2 = (hb2 : Int) := by rw [Int.tdiv_eq_ediv_of_nonneg (by omega), Int.tmod_eq_emod_of_nonneg (by omega)]; omega
    have r3 : ((m : Int).tdiv 1024).tmod 16 = (od : Int) := by rw [Int.tdiv_eq_ediv_of_nonneg (by omega), Int.tmod_eq_emod_of_nonneg (by omega)]; omega
    have r4 : (m : Int) / 16384 % 2 = (hb2 : Int) := by omega
    have r5 : (m : Int) / 1024 % 16 = (od : Int) := by omega
    have hh2 : hb2 < 2 := by rw [← hhb2]; exact Nat.mod_lt _ (by decide)
    obtain ⟨hi, hhi⟩ : ∃ x, ((hb2 : Int) == 1) = x := ⟨_, rfl⟩
    have HHI : Hid (hi = true ↔ hb2 = 1) := by show _ ↔ _; rw [← hhi]; simp; omega
    rw [hnn, hod, hhb2] at HOE1
    clear hnn hod hhb2
    by_cases t2 : od ≠ 0 ∨ nn < 6
    · have hr := HGE.out 4 (by decide) (by rw [HOE1.out, if_pos t2])
      subst hr
      clear HG HOE1 HGE hn
      by_cases t3 : od = 0
      · have t4 : (nn : Int) < 6 := by omega
        subst t3
        clear t2
        go_wp2_with fail
        refine (HNUM.out _).mono ?_
        rintro e w1 ⟨rfl, hu1⟩
        go_wp2_with fail
        go_ret2
        exact .none (HU.out.trans hu1)
      · have t4 : ((od : Int) != 0) = true := by simp; omega
        clear t2
        go_wp2_with fail
        refine (HNUM.out _).mono ?_
        rintro e w1 ⟨rfl, hu1⟩
        go_wp2_with fail
        go_ret2
        exact .none (HU.out.trans hu1)
    have HOE2 := Lib.hid (HOE1.out.trans (if_neg t2))
    obtain rfl : od = 0 := by omega
    have h6 : ¬ nn < 6 := fun h => t2 (.inr h)
    have h6' : ¬ (nn : Int) < 6 := by omega
    clear HOE1 t2
    by_cases t3 : s.size < nn
    · have hr := HGE.out 5 (by decide) (by rw [HOE2.out, if_pos t3])
      subst hr
      have t4 : (s.size : Int) < nn := by omega
      clear HG HOE2 HGE hn
      go_wp2_with fail
      refine (HNUM.out _).mono ?_
      rintro e w1 ⟨rfl, hu1⟩
      go_wp2_with fail
      go_ret2
      exact .none (HU.out.trans hu1)
    have HOE3 := Lib.hid (HOE2.out.trans (if_neg t3))
    have t3' : ¬ (s.size : Int) < nn := by omega
    clear HOE2
    by_cases t4 : (if hb2 = 1 then 1008 else 1006) < nn ∨ 40 ≤ out.length
    · have hr := HGE.out 2 (by decide) (by rw [HOE3.out, if_pos t4])
      subst hr
      rw [← HN.out] at t4
      have HHJ : Hid ((hi = false ∧ (1006 : Int) < nn) ∨ (hi = false ∧ ¬ (1006 : Int) < nn ∧ ¬ (1008 : Int) < nn ∧ (40 : Int) ≤ n) ∨ (hi = true ∧ (1008 : Int) < nn) ∨ (hi = true ∧ ¬ (1008 : Int) < nn ∧ (40 : Int) ≤ n)) := by
        have h := HHI.out
        show _
        cases hi
        · have h7 : ¬ hb2 = 1 := fun h8 => by have := h.2 h8; cases this
          rw [if_neg h7] at t4
          by_cases j : 1006 < nn
          · exact .inl ⟨rfl, by omega⟩
          · exact .inr (.inl ⟨rfl, by omega, by omega, by omega⟩)
        · have h7 : hb2 = 1 := h.1 rfl
          rw [if_pos h7] at t4
          by_cases j : 1008 < nn
          · exact .inr (.inr (.inl ⟨rfl, by omega⟩))
          · exact .inr (.inr (.inr ⟨rfl, by omega, by omega⟩))
      clear HG HOE3 HGE hn t4 t3 h6
      rcases HHJ.out with ⟨rfl, k1⟩ | ⟨rfl, k1, k2, k3⟩ | ⟨rfl, k1⟩ | ⟨rfl, k1, k2⟩
      all_goals
        clear HHJ
        go_wp2_with fail
        refine (HNUM.out _).mono ?_
        rintro e w1 ⟨rfl, hu1⟩
        go_wp2_with fail
        go_ret2
        exact .none (HU.out.trans hu1)
    have HOE4 := Lib.hid (HOE3.out.trans (if_neg t4))
    rw [← HN.out] at t4
    have hn40' : n < 40 := by omega
    have k3 : ¬ (40 : Int) ≤ n := by omega
    have HKK : Hid ((hi = false ∧ ¬ (1006 : Int) < nn ∧ ¬ (1008 : Int) < nn) ∨ (hi = true ∧ ¬ (1008 : Int) < nn)) := by
      have h := HHI.out
      show _
      cases hi
      · have h7 : ¬ hb2 = 1 := fun h8 => by have := h.2 h8; cases this
        rw [if_neg h7] at t4
        exact .inl ⟨rfl, by omega, by omega⟩
      · have h7 : hb2 = 1 := h.1 rfl
        rw [if_pos h7] at t4
        exact .inr ⟨rfl, by omega⟩
    have k4 : ¬ (1008 : Int) < nn := by rcases HKK.out with ⟨_, _, h⟩ | ⟨_, h⟩ <;> exact h
    have k5 : hi = false → ¬ (1006 : Int) < nn := fun h => by rcases HKK.out with ⟨_, h, _⟩ | ⟨h2, _⟩; exact h; rw [h] at h2; cases h2
    clear HKK HOE3 hn
    obtain ⟨mu, hmu⟩ : ∃ x, decide (32768 ≤ m) = x := ⟨_, rfl⟩
    have hmu' : decide ((32768 : Int) ≤ (m : Int)) = mu := by rw [← hmu]; simp; omega
    have HN2 := Lib.hid (rnum_any s 2 (by simp only [maxLen]; omega) (by omega))
    have HN4 := Lib.hid (rnum_any s 4 (by simp only [maxLen]; omega) (by omega))
    have hx4 := num_bd s 4 2
    obtain ⟨x2, hx2⟩ : ∃ x, num s 2 2 = x := ⟨_, rfl⟩
    obtain ⟨x4, hx4e⟩ : ∃ x, num s 4 2 = x := ⟨_, rfl⟩
    obtain ⟨X, hX⟩ : ∃ x, x = s.extract 6 nn := ⟨_, rfl⟩
    have hXz : X.size ≤ s.size := by rw [hX, ByteArray.size_extract]; omega
    rw [hmu, hx2, hx4e, ← hX] at HOE4
    rw [hx2] at HN2
    rw [hx4e] at HN4 hx4
    have HX4 : Hid (0 ≤ x4 ∧ x4 < 65536) := by have := hx4; show _ ∧ _; omega
    have HX := Lib.hid hX
    clear hmu hx2 hx4e hX hx4 t4
    have HIP : Hid (hi = false → oneA s secret out = (⟨mu, false, x2, x4, X⟩, nn, 0)) := fun h => by
      have h7 : ¬ hb2 = 1 := fun h8 => by have := HHI.out.2 h8; rw [h] at this; cases this
      rw [HOE4.out, if_neg h7]
    have HIH : Hid (hi = true → oneA s secret out = if (shownA x4 X secret out).2 ≠ 0 then (zeroAv, 0, (shownA x4 X secret out).2) else (⟨mu, true, x2, x4, (shownA x4 X secret out).1⟩, nn, 0)) := fun h => by
      rw [HOE4.out, if_pos (HHI.out.1 h)]
    clear HOE4 HHI hh2
    have HK5 := Lib.hid k5
    clear k5
    go_upto_region 13 with ((refine (HNUM.out _).mono ?_; rintro e w1 ⟨rfl, hu1⟩; have HU1 := Lib.hid hu1; clear hu1))
    go_cut [54] from 14 to 112 (fun s54 V => s54 = .bool false ∧ w1 = V)
    case first =>
      have k5 := HK5.out
      cases hi
      · have k6 := k5 rfl
        clear k5 HK5
        go_wp2_with fail
        go_meet
        case rel => exact ⟨by simp [k3, k4, k6], rfl⟩
      · clear k5 HK5
        go_wp2_with fail
        go_meet
        case rel => exact ⟨by simp [k3, k4], rfl⟩
    case rest =>
    obtain ⟨rfl, rfl⟩ := hcut
    go_upto_region 15 with (fail)
    clear HNUM h6 h6'
    refine wp_region_chain [some (.int .i64 m), some (.bool mu), some (.bool hi), some (.string s), some (.int .i64 x2), some (.string s), some (.int .i64 x4), some (.string s), some (.int .i64 nn), some (.string X), some (.agg #[.bool mu, .bool hi, .int .i64 x2, .int .i64 x4, .string X]), none, none] [11,12] (newA w1 85 #[.bool false, .bool false, .int .i64 0, .int .i64 0, .string ⟨#[]⟩] #[.bool mu, .bool hi, .int .i64 x2, .int .i64 x4, .string X]) [(0, 1), (0, 1), (0, 1), (0, 1), (0, 1), (0, 1), (0, 1), (0, 1), (0, 1), (0, 1), (0, 1), (0, 0), (1, 1)] (by kernel_rfl) (by kernel_rfl) (by kernel_rfl) (by kernel_rfl) (by kernel_rfl) (by kernel_rfl) (((Upd.refl [] _).drew)) ?_ ?_
    · refine StepsC.cons ?_ (StepsC.cons ?_ (StepsC.cons ?_ (StepsC.cons ?_ (StepsC.cons ?_ (StepsC.cons ?_ (StepsC.cons ?_ (StepsC.cons ?_ (StepsC.cons ?_ (StepsC.cons ?_ (StepsC.cons ?_ (StepsC.cons ?_ (StepsC.cons ?_ StepsC.nil))))))))))))
      · refine chain_is _ (.inl rfl) ⟨_, rfl⟩ (by kernel_rfl) rfl ?_
        intro a W kst l0 h0 A0 hF hD
        have e9 : a.tmps[9]?.getD undef = _ := (ev a 9).symm.trans (hF 9 (by kernel_rfl))
        clear hF hD
        go_simp
      · refine chain_is _ (.inl rfl) ⟨_, rfl⟩ (by kernel_rfl) rfl ?_
        intro a W kst l0 h0 A0 hF hD
        have e55 : a.tmps[55]?.getD undef = .int .i64 m := (ev a 55).symm.trans (hD _ (Array.mem_of_getElem? (i := 0) rfl) rfl)
        clear hF hD
        go_simp
      · refine chain_is _ (.inl rfl) ⟨_, rfl⟩ (by kernel_rfl) rfl ?_
        intro a W kst l0 h0 A0 hF hD
        have e11 : a.tmps[11]?.getD undef = _ := (ev a 11).symm.trans (hF 11 (by kernel_rfl))
        clear hF hD
        go_simp
      · refine chain_is _ (.inl rfl) ⟨_, rfl⟩ (by kernel_rfl) rfl ?_
        intro a W kst l0 h0 A0 hF hD
        have e0 : a.tmps[0]?.getD undef = _ := (ev a 0).symm.trans (hF 0 (by kernel_rfl))
        clear hF hD
        go_simp
      · refine chain_beside _ (.inl rfl) ⟨_, rfl⟩ (by kernel_rfl) rfl ?_
        intro a W kst l0 h0 A0 hF hD
        have e58 : a.tmps[58]?.getD undef = .string s := (ev a 58).symm.trans (hD _ (Array.mem_of_getElem? (i := 0) rfl) rfl)
        clear hF hD
        refine ⟨_, _, by (go_simp; first | done | rfl | exact ⟨rfl, rfl⟩), ?_⟩
        refine (HN2.out W).mono ?_
        rintro e w2 ⟨rfl, hu⟩
        exact ⟨rfl, newA.next A0 hu⟩
      · refine chain_is _ (.inl rfl) ⟨_, rfl⟩ (by kernel_rfl) rfl ?_
        intro a W kst l0 h0 A0 hF hD
        have e0 : a.tmps[0]?.getD undef = _ := (ev a 0).symm.trans (hF 0 (by kernel_rfl))
        clear hF hD
        go_simp
      · refine chain_beside _ (.inl rfl) ⟨_, rfl⟩ (by kernel_rfl) rfl ?_
        intro a W kst l0 h0 A0 hF hD
        have e60 : a.tmps[60]?.getD undef = .string s := (ev a 60).symm.trans (hD _ (Array.mem_of_getElem? (i := 0) rfl) rfl)
        clear hF hD
        refine ⟨_, _, by (go_simp; first | done | rfl | exact ⟨rfl, rfl⟩), ?_⟩
        refine (HN4.out W).mono ?_
        rintro e w2 ⟨rfl, hu⟩
        exact ⟨rfl, newA.next A0 hu⟩
      · refine chain_is _ (.inl rfl) ⟨_, rfl⟩ (by kernel_rfl) rfl ?_
        intro a W kst l0 h0 A0 hF hD
        have e0 : a.tmps[0]?.getD undef = _ := (ev a 0).symm.trans (hF 0 (by kernel_rfl))
        clear hF hD
        go_simp
      · refine chain_is _ (.inl rfl) ⟨_, rfl⟩ (by kernel_rfl) rfl ?_
        intro a W kst l0 h0 A0 hF hD
        have e10 : a.tmps[10]?.getD undef = _ := (ev a 10).symm.trans (hF 10 (by kernel_rfl))
        clear hF hD
        go_simp
      · refine chain_is _ (.inl rfl) ⟨_, rfl⟩ (by kernel_rfl) rfl ?_
        intro a W kst l0 h0 A0 hF hD
        have e62 : a.tmps[62]?.getD undef = .string s := (ev a 62).symm.trans (hD _ (Array.mem_of_getElem? (i := 0) rfl) rfl)
        have e63 : a.tmps[63]?.getD undef = .int .i64 nn := (ev a 63).symm.trans (hD _ (Array.mem_of_getElem? (i := 1) rfl) rfl)
        clear hF hD
        have := HX.out
        go_simp
      · refine chain_is _ (.inl rfl) ⟨_, rfl⟩ (by kernel_rfl) rfl ?_
        intro a W kst l0 h0 A0 hF hD
        have e56 : a.tmps[56]?.getD undef = .bool mu := (ev a 56).symm.trans (hD _ (Array.mem_of_getElem? (i := 0) rfl) rfl)
        have e57 : a.tmps[57]?.getD undef = .bool hi := (ev a 57).symm.trans (hD _ (Array.mem_of_getElem? (i := 1) rfl) rfl)
        have e59 : a.tmps[59]?.getD undef = .int .i64 x2 := (ev a 59).symm.trans (hD _ (Array.mem_of_getElem? (i := 2) rfl) rfl)
        have e61 : a.tmps[61]?.getD undef = .int .i64 x4 := (ev a 61).symm.trans (hD _ (Array.mem_of_getElem? (i := 3) rfl) rfl)
        have e64 : a.tmps[64]?.getD undef = .string X := (ev a 64).symm.trans (hD _ (Array.mem_of_getElem? (i := 4) rfl) rfl)
        clear hF hD
        go_simp
      · refine chain_run (.inl rfl) ⟨_, rfl⟩ (by kernel_rfl) ?_
        intro a W kst l0 h0 A0 hF hD
        have k0 : kst = 0 := Nat.le_antisymm h0 l0
        subst k0
        clear l0 h0
        clear hF hD
        have hu : Upd [] w1 W := A0
        exact ⟨.pointer (some ⟨W.heap.size, 0, none⟩), W.alloc (.cells #[.bool false, .bool false, .int .i64 0, .int .i64 0, .string ⟨#[]⟩] 85), by (go_simp; first | done | rfl), trivial, hu.alloc _, W.heap.size, hu.size, rfl, Blk.new _ _ _⟩
      · refine chain_set (.inl rfl) rfl (by kernel_rfl) trivial ?_
        intro a W kst l0 h0 A0 hF hD
        have k0 : kst = 1 := Nat.le_antisymm h0 l0
        subst k0
        clear l0 h0
        have e65 : a.tmps[65]?.getD undef = .agg #[.bool mu, .bool hi, .int .i64 x2, .int .i64 x4, .string X] := (ev a 65).symm.trans (hD _ (Array.mem_of_getElem? (i := 1) rfl) rfl)
        clear hF hD
        obtain ⟨hu, g, hg, hp, hbk⟩ := A0
        have e12 : a.tmps[12]?.getD undef = _ := (ev a 12).symm.trans hp
        have s0 := hbk.cell 0
        have s1 := hbk.cell 1
        have s2 := hbk.cell 2
        have s3 := hbk.cell 3
        have s4 := hbk.cell 4
        have f0 := hbk.frozen 0
        have f1 := hbk.frozen 1
        have f2 := hbk.frozen 2
        have f3 := hbk.frozen 3
        have f4 := hbk.frozen 4
        have hlt := hbk.lt
        simp only [List.size_toArray, List.length_cons, List.length_nil, List.getElem?_toArray, List.getElem?_cons_zero, List.getElem?_cons_succ] at s0 s1 s2 s3 s4
        refine ⟨_, by (go_simp; first | done | rfl), (((((hu.setCell _ (.inr hg)).setCell _ (.inr hg)).setCell _ (.inr hg)).setCell _ (.inr hg)).setCell _ (.inr hg)), g, hg, hp, ((((hbk.set_ 0 _).set_ 1 _).set_ 2 _).set_ 3 _).set_ 4 _⟩
    intro vals W hv hA
    have v0 : vals 0 = .int .i64 m := hv 0 (by decide)
    have v1 : vals 1 = .bool mu := hv 1 (by decide)
    have v2 : vals 2 = .bool hi := hv 2 (by decide)
    have v3 : vals 3 = .string s := hv 3 (by decide)
    have v4 : vals 4 = .int .i64 x2 := hv 4 (by decide)
    have v5 : vals 5 = .string s := hv 5 (by decide)
    have v6 : vals 6 = .int .i64 x4 := hv 6 (by decide)
    have v7 : vals 7 = .string s := hv 7 (by decide)
    have v8 : vals 8 = .int .i64 nn := hv 8 (by decide)
    have v9 : vals 9 = .string X := hv 9 (by decide)
    have v10 : vals 10 = .agg #[.bool mu, .bool hi, .int .i64 x2, .int .i64 x4, .string X] := hv 10 (by decide)
    clear hv
    obtain ⟨hu, g, hg, v12, hbk⟩ := hA
    simp only [putAll, Act.put, Nat.zero_add, Nat.reduceAdd, v12, v0, v1, v2, v3, v4, v5, v6, v7, v8, v9, v10, List.setIfInBounds_toArray, List.set_cons_zero, List.set_cons_succ]
    clear v0 v1 v2 v3 v4 v5 v6 v7 v8 v9 v10
    clear v12
    have HBK := Lib.hid hbk
    have HUX := Lib.hid (HU1.out.trans hu)
    have HGE2 : Hid (wr.heap.size ≤ g) := Nat.le_trans HU1.out.size hg
    clear hu hbk hg
    clear HN2 HN4 HX hmu' HU1 r1 r2 r3 r4 r5 hm2 HM hhi
    have HSH : Hid (shownA x4 X secret out = if secret.size = 0 then (⟨#[]⟩, 30) else if vb = false then (⟨#[]⟩, 40) else
        if (maskB true x4 secret vv X).size < 2 ∨ num (maskB true x4 secret vv X) 0 2 ≠ (maskB true x4 secret vv X).size - 2 then (⟨#[]⟩, 4)
        else ((maskB true x4 secret vv X).extract 2 (maskB true x4 secret vv X).size, 0)) := by show _ = _; rw [shownA, HV.out]
    have HMK := Lib.hid (rUnmask_any x4 secret vv X HX4.out hs (by omega) (by omega))
    have hmz := maskB_size true x4 secret vv X
    generalize maskB true x4 secret vv X = M at *
    have hMz : M.size ≤ 400000 := by omega
    have hMX : M.size ≤ X.size := by omega
    clear hmz
    have HBC : Hid (∀ W2, Upd [] W W2 → W2.cell? ⟨g, 0, none⟩ = some (.bool mu) ∧ W2.cell? ⟨g, 1, none⟩ = some (.bool hi) ∧ W2.cell? ⟨g, 2, none⟩ = some (.int .i64 x2) ∧ W2.cell? ⟨g, 3, none⟩ = some (.int .i64 x4) ∧ W2.cell? ⟨g, 4, none⟩ = some (.string X) ∧ W2.frozen? ⟨g, 4, none⟩ = false ∧ g < W2.heap.size) := fun W2 hu => by
      have b := HBK.out.upd hu (by simp)
      exact ⟨b.cell 0, b.cell 1, b.cell 2, b.cell 3, b.cell 4, b.frozen 4, b.lt⟩
    by_cases he : hi = true ∧ (shownA x4 X secret out).2 ≠ 0
    · obtain ⟨rfl, he2⟩ := he
      have h1 := HIH.out rfl
      rw [if_pos he2] at h1
      have hr := HGE.out _ he2 (by rw [h1])
      obtain ⟨E, hE⟩ : ∃ E, (shownA x4 X secret out).2 = E := ⟨_, rfl⟩
      rw [hE] at hr he2
      have HEN := Lib.hid he2
      rw [HSH.out] at hE
      have HE := Lib.hid hE
      subst hr
      obtain ⟨d0, d1, d2, d3, d4, -, -⟩ := HBC.out W (Upd.refl _ _)
      clear h1 he2 hE HIH HIP HGE HSH
      by_cases q1 : secret.size = 0
      · have e0 := str_empty_t q1
        have hE := HE.out
        rw [if_pos q1] at hE
        obtain rfl : (30 : Int) = E := hE
        clear HE q1
        go_wp2_with fail
        go_ret2
        exact .none (HU.out.trans HUX.out)
      have e0 := str_empty_f q1
      have HE1 := Lib.hid ((congrArg Prod.snd (if_neg q1)).symm.trans HE.out)
      clear HE q1
      cases vb
      · have hE := HE1.out
        rw [if_pos rfl] at hE
        obtain rfl : (40 : Int) = E := hE
        clear HE1
        go_wp2_with fail
        go_ret2
        exact .none (HU.out.trans HUX.out)
      have HE2 := Lib.hid ((congrArg Prod.snd (if_neg (by simp))).symm.trans HE1.out)
      clear HE1
      by_cases q2 : M.size < 2
      · have hE := HE2.out
        rw [if_pos (.inl q2)] at hE
        obtain rfl : (4 : Int) = E := hE
        have q2' : (M.size : Int) < 2 := by omega
        clear HE2
        go_wp2_with fail
        refine (HMK.out _).mono ?_
        rintro e w2 ⟨rfl, hu2⟩
        go_wp2_with fail
        go_ret2
        exact .none ((HU.out.trans HUX.out).trans hu2)
      have q2' : ¬ (M.size : Int) < 2 := by omega
      have HNM := Lib.hid (rnum_any M 0 (by simp only [maxLen]; omega) (by omega))
      by_cases q3 : num M 0 2 ≠ M.size - 2
      · have hE := HE2.out
        rw [if_pos (.inr q3)] at hE
        obtain rfl : (4 : Int) = E := hE
        obtain ⟨y, hy⟩ : ∃ y, num M 0 2 = y := ⟨_, rfl⟩
        rw [hy] at q3 HNM
        have q3' : (y != (M.size : Int) - 2) = true := by simpa using q3
        clear HE2 hy q3
        go_wp2_with fail
        refine (HMK.out _).mono ?_
        rintro e w2 ⟨rfl, hu2⟩
        go_wp2_with fail
        refine (HNM.out _).mono ?_
        rintro e w3 ⟨rfl, hu3⟩
        go_wp2_with fail
        go_ret2
        exact .none (((HU.out.trans HUX.out).trans hu2).trans hu3)
      · have hE := HE2.out
        rw [if_neg (by rintro (h | h); exact q2 h; exact q3 h)] at hE
        have h0 : (0 : Int) = E := hE
        exact absurd h0.symm HEN.out
    obtain ⟨Y, hone, hY0, hY1⟩ : ∃ Y, oneA s secret out = (⟨mu, hi, x2, x4, Y⟩, nn, 0) ∧ (hi = false → Y = X) ∧ (hi = true → ¬ secret.size = 0 ∧ vb = true ∧ ¬ M.size < 2 ∧ num M 0 2 = M.size - 2 ∧ Y = M.extract 2 M.size) := by
      cases hi
      · exact ⟨X, HIP.out rfl, fun _ => rfl, fun h => by cases h⟩
      · have he3 : (shownA x4 X secret out).2 = 0 := Classical.not_not.1 fun h => he ⟨rfl, h⟩
        have h1 := HIH.out rfl
        rw [if_neg (fun h => h he3)] at h1
        rw [HSH.out] at he3
        refine ⟨_, h1, (fun h => by cases h), fun _ => ?_⟩
        by_cases q1 : secret.size = 0
        · rw [if_pos q1] at he3; cases he3
        rw [if_neg q1] at he3
        by_cases qv : vb = false
        · rw [if_pos qv] at he3; cases he3
        rw [if_neg qv] at he3
        by_cases q2 : M.size < 2 ∨ num M 0 2 ≠ M.size - 2
        · rw [if_pos q2] at he3; cases he3
        refine ⟨q1, by cases vb; exact absurd rfl qv; rfl, fun h => q2 (.inl h), Classical.not_not.1 fun h => q2 (.inr h), ?_⟩
        rw [HSH.out, if_neg q1, if_neg qv, if_neg q2]
    have HY0 := Lib.hid hY0
    have HY1 := Lib.hid hY1
    have HONE := Lib.hid hone
    have hYz : Y.size ≤ s.size := by
      cases hi
      · rw [hY0 rfl]; exact hXz
      · rw [(hY1 rfl).2.2.2.2, ByteArray.size_extract, Nat.min_self]; omega
    clear HIP HIH HSH he hone hY0 hY1
    go_upto_if 66 with (fail)
    go_cut [] from 14 to 112 (fun V => Blk V g 85 #[.bool mu, .bool hi, .int .i64 x2, .int .i64 x4, .string Y] ∧ Upd [] wr V ∧ W.heap.size ≤ V.heap.size)
    case first =>
      obtain ⟨d0, d1, d2, d3, d4, -, -⟩ := HBC.out W (Upd.refl _ _)
      cases hi
      · have e := HY0.out rfl
        subst e
        clear HY0 HY1
        go_wp2_with fail
        go_meet
        case rel => exact ⟨HBK.out, HUX.out, Nat.le_refl _⟩
      · obtain ⟨q1, rfl, q2, q3, hy⟩ := HY1.out rfl
        have e0 := str_empty_f q1
        have q2' : ¬ (M.size : Int) < 2 := by omega
        have HNM := Lib.hid (rnum_any M 0 (by simp only [maxLen]; omega) (by omega))
        obtain ⟨y, hyy⟩ : ∃ y, num M 0 2 = y := ⟨_, rfl⟩
        rw [hyy] at q3 HNM
        have q3' : (y != (M.size : Int) - 2) = false := by simpa using q3
        have HYY := Lib.hid hy
        clear hyy q3 hy HY0 HY1 q1
        go_wp2_with fail
        refine (HMK.out _).mono ?_
        rintro e w2 ⟨rfl, hu2⟩
        go_wp2_with fail
        refine (HNM.out _).mono ?_
        rintro e w3 ⟨rfl, hu3⟩
        obtain ⟨d0, d1, d2, d3, d4, d5, d6⟩ := HBC.out w3 (hu2.trans hu3)
        have hb3 := HBK.out.upd (hu2.trans hu3) (by simp)
        have HB3 := Lib.hid hb3
        have HU3 := Lib.hid (hu2.trans hu3)
        have HGL : Hid (wr.heap.size ≤ g) := HGE2.out
        clear hu2 hu3 hb3
        go_wp2_with fail
        go_meet
        case rel =>
          refine ⟨?_, (HUX.out.trans HU3.out).setCell _ (.inr HGL.out), by rw [World.size_setCell]; exact HU3.out.size⟩
          rw [HYY.out]
          exact HB3.out.set_ 4 _
    case rest =>
    obtain ⟨hbk, hux, hwz2⟩ := hcut
    generalize hw6 : wc = w6 at *
    clear hw6 HBC HBK HUX HMK HY0 HY1 hwz2
    have HB6 := Lib.hid hbk
    have HU6 := Lib.hid hux
    clear hbk hux
    have c0 := HB6.out.cell 0
    have c1 := HB6.out.cell 1
    have c2 := HB6.out.cell 2
    have c3 := HB6.out.cell 3
    have c4 := HB6.out.cell 4
    simp only [List.size_toArray, List.length_cons, List.length_nil, List.getElem?_toArray, List.getElem?_cons_zero, List.getElem?_cons_succ] at c0 c1 c2 c3 c4
    obtain ⟨iv, hiv⟩ : ∃ y, (x2 == 0 && x4 == 36 && !hi) = y := ⟨_, rfl⟩
    have HIV := Lib.hid hiv
    clear hiv
    obtain ⟨vv2, vb2, hvv2⟩ : ∃ a b, (if iv = true then (Y, true) else (vv, vb)) = (a, b) := ⟨_, _, rfl⟩
    have HVV2 := Lib.hid hvv2
    clear hvv2
    go_upto_region 25 with (fail)
    go_cut [103] from 14 to 112 (fun s103 V => s103 = .bool iv ∧ w6 = V)
    case first =>
      have hiv := HIV.out
      cases j1 : (x2 == 0)
      · rw [j1] at hiv
        clear HIV
        go_wp2_with fail
        go_meet
        case rel => exact ⟨by rw [← hiv]; rfl, rfl⟩
      · cases j2 : (x4 == 36)
        · rw [j1, j2] at hiv
          clear HIV
          go_wp2_with fail
          go_meet
          case rel => exact ⟨by rw [← hiv]; rfl, rfl⟩
        · cases hi
          · rw [j1, j2] at hiv
            clear HIV
            go_wp2_with fail
            go_meet
            case rel => exact ⟨by rw [← hiv]; rfl, rfl⟩
          · rw [j1, j2] at hiv
            clear HIV
            go_wp2_with fail
            go_meet
            case rel => exact ⟨by rw [← hiv]; rfl, rfl⟩
    case rest =>
    obtain ⟨rfl, rfl⟩ := hcut
    go_upto_if 103 with (fail)
    go_cut [7, 8] from 14 to 112 (fun s7 s8 V => s7 = .string vv2 ∧ s8 = .bool vb2 ∧ w6 = V)
    case first =>
      have hvv := HVV2.out
      cases iv
      · rw [if_neg (by simp)] at hvv
        injection hvv with hv1 hv2
        subst hv1 hv2
        clear HVV2 HIV
        go_wp2_with fail
        go_meet
        case rel => exact ⟨rfl, rfl, rfl⟩
      · rw [if_pos rfl] at hvv
        injection hvv with hv1 hv2
        subst hv1 hv2
        clear HVV2 HIV
        go_wp2_with fail
        go_meet
        case rel => exact ⟨rfl, rfl, rfl⟩
    case rest =>
    obtain ⟨rfl, rfl, rfl⟩ := hcut
    have HVN : Hid (vec (out ++ [⟨mu, hi, x2, x4, Y⟩]) = (vv2, vb2)) := by
      show _ = _
      rw [vec_snoc, HV.out, ← HVV2.out, ← HIV.out]
      rfl
    have HGN : Hid (getFromA secret (s.extract nn s.size).size (s.extract nn s.size) (out ++ [⟨mu, hi, x2, x4, Y⟩]) = R) := by
      show _ = _
      have hg := HG.out
      rw [HONE.out, if_neg (by simp)] at hg
      rw [← hg]
      exact getFromA_more secret _ _ _ _ (Nat.le_refl _) (by rw [ByteArray.size_extract]; omega)
    have HO6 := Lib.hid (HO.out.upd HU6.out (by simp))
    have hz6 : wr.heap.size ≤ w6.heap.size := HU6.out.size
    obtain ⟨rs, hrs⟩ : ∃ y, s.extract nn s.size = y := ⟨_, rfl⟩
    have hrz : rs.size = s.size - nn := by rw [← hrs, ByteArray.size_extract]; omega
    rw [hrs] at HGN
    have HRS := Lib.hid hrs
    clear hrs HG HONE HVV2 HIV HV HO HGE
    go_wp2_with (at_builtin; refine wpList_append_Own _ rfl (.tmp 106) (.tmp 108) 22 rfl 85 i0 _ 5 40 Tryz.underlying22 hi0 hz0 hz1 hz2 rfl (by decide) (.slice ao n cap) n (avCells out) own (by simp [Act.eval]) (Own.alloc _ HO6.out) ⟨w6.heap.size, 0, none⟩ 1 1 [.bool mu, .bool hi, .int .i64 x2, .int .i64 x4, .string Y] (by simp [Act.eval]) rfl (World.news_of_block (Blk.new _ _ _)) (by simp [Value.oneCell']) (by decide) (by simp only [maxLen]; omega) (by omega) ?_; intro g2 off cap1 w7 ow2 ho2 hin2 hu2; have HO7 := Lib.hid ho2; have HIN7 := Lib.hid hin2; have HU7 := Lib.hid hu2; clear ho2 hin2 hu2)
    go_roundg rs.size
    case rel =>
      have hin3 : ∀ j, j ∈ ow2 → w.heap.size ≤ j := fun j hj => by
        rcases HIN7.out j hj with h | h
        · exact HIN.out j h
        · simp at h; omega
      refine ⟨rs, vv2, vb2, out ++ [⟨mu, hi, x2, x4, Y⟩], some ⟨g2, off, none⟩, n + 1, cap1, ow2, by (rw [← HRS.out]; first | rfl | (congr 2; omega) | (congr 3; omega)), rfl, rfl, rfl, by omega, rfl, by rw [List.length_append, HN.out]; rfl, by omega, ?_, HVN.out, HGN.out, ?_, hin3, ?_⟩
      · intro x hx
        rcases List.mem_append.1 hx with h | h
        · exact HALL.out x h
        · simp at h; subst h; exact Nat.le_trans hYz hsb
      · rw [avCells_snoc]; exact HO7.out
      · exact (((HU.out.trans HU6.out).alloc _).trans' HU7.out (fun x hx => .inr (HIN.out x hx)))
    case measure => omega
end Go.Proofs.YtglafpdealjlnaaGreat
