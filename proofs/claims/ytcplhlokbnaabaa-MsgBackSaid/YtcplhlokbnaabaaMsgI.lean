/- The walk of msg.GetLoad. -/
import Derived.Test.YtcplhlokbnaabaaMsgH
import Derived.Test.YtcplhlokbnaabaaLd
import Derived.Test.YtcplhlokbnaabaaRes2
namespace Go.Proofs.Ytcplhlokbnaabaa
open Go.RowKit
set_option linter.unusedSimpArgs false
set_option linter.unusedVariables false
set_option maxRecDepth 20000

def glA (w0 : World) (cs : Array Value) (vs : List Value) (w : World) : Prop := match vs with
  | [] => Upd [] w0 w
  | [a] => Upd [] w0 w ∧ ∃ g, w0.heap.size ≤ g ∧ a = .pointer (some ⟨g, 0, none⟩) ∧ Blk w g 42 #[.int .i64 0, .int .i64 0, .bool false, .int .i64 0, .int .i64 0, .string ⟨#[]⟩]
  | [a, _] => Upd [] w0 w ∧ ∃ g, w0.heap.size ≤ g ∧ a = .pointer (some ⟨g, 0, none⟩) ∧ Blk w g 42 cs
  | _ => False
theorem glA_keep {w0 w w' : World} {cs : Array Value} {vs : List Value} (h : glA w0 cs vs w) (hu : Upd [] w w') : glA w0 cs vs w' := by
  match vs, h with
  | [], h => exact Upd.trans (show Upd [] w0 w from h) hu
  | [a], ⟨h1, g, h2, h3, h4⟩ => exact ⟨h1.trans hu, g, h2, h3, h4.upd hu (by simp)⟩
  | [a, _], ⟨h1, g, h2, h3, h4⟩ => exact ⟨h1.trans hu, g, h2, h3, h4.upd hu (by simp)⟩
def getL (b : ByteArray) : Ld × Int :=
  if b.size < 8 then (.zero, 5) else
  if ¬ (byte b 0 = 64 ∨ byte b 0 = 72) ∨ byte b 1 ≠ 2 then (.zero, 4) else
  if (b.size : Int) < num b 2 2 then (.zero, 5) else
  if num b 2 2 < (if byte b 0 = 72 then 12 else 8) then (.zero, 4) else
  if 1460 < num b 2 2 - (if byte b 0 = 72 then 12 else 8) then (.zero, 2) else
  if byte b 0 = 72 then (⟨num b 4 2, num b 6 2, true, num b 8 2, num b 10 2, b.extract 12 (num b 2 2).toNat⟩, 0)
  else (⟨num b 4 2, num b 6 2, false, 0, 0, b.extract 8 (num b 2 2).toNat⟩, 0)
theorem seq8 (x : Int) (h : 0 ≤ x ∧ x < 256) : (bits .andNot .u8 x 8 != 64) = !(decide (x = 64) || decide (x = 72)) := by
  obtain ⟨m, rfl⟩ := Int.eq_ofNat_of_zero_le h.1
  have : ∀ m : Nat, m < 256 → (bits .andNot .u8 (m : Int) 8 != 64) = !(decide ((m : Int) = 64) || decide ((m : Int) = 72)) := by decide +kernel
  exact this m (by omega)

set_option maxHeartbeats 8000000 in
theorem getLoad_any (b : ByteArray) (hb : b.size ≤ 400000) (w : World) :
    Calls Try.prog 16 #[.string b] w fun e w' => e = .returned (.tuple #[(getL b).1.agg, .int .i64 (getL b).2]) ∧ Upd [] w w' := by
  obtain ⟨R, hR⟩ : ∃ R, getL b = R := ⟨_, rfl⟩
  rw [hR]
  have HR := Lib.hid hR
  clear hR
  simp only [getL] at HR
  by_cases t1 : b.size < 8
  · have hr := HR.out
    rw [if_pos t1] at hr
    subst hr
    clear HR
    simp only [Ld.zero, Ld.agg]
    have t1' : (b.size : Int) < 8 := by omega
    go_enter Try.func16, Try.ntmps16
    go_wp2_with fail
    exact bodyPost_ret (v := .tuple #[.agg #[.int .i64 0, .int .i64 0, .bool false, .int .i64 0, .int .i64 0, .string ⟨#[]⟩], .int .i64 5]) (by simp [results, Try.results16, go_sem]) rfl ⟨rfl, (by repeat (first | refine Upd.setCell _ ?_ (.inr (by simp)) | refine Upd.alloc _ ?_ | exact Upd.refl _ _))⟩
  have HR1 : Hid (_ = R) := (if_neg t1).symm.trans HR.out
  have t1' : ¬ (b.size : Int) < 8 := by omega
  clear HR
  have p0 : 0 < b.size := by omega
  have p1 : 1 < b.size := by omega
  have q0 := byte_get b 0 p0
  have q1 := byte_get b 1 p1
  have hb0 := byte_bd b 0
  have hb1 := byte_bd b 1
  have hn := num_bd b 2 2
  have HN2 := Lib.hid (msgNum_any b 2 (by simp only [maxLen]; omega) (by omega))
  have HN4 := Lib.hid (msgNum_any b 4 (by simp only [maxLen]; omega) (by omega))
  have HN6 := Lib.hid (msgNum_any b 6 (by simp only [maxLen]; omega) (by omega))
  have HN8 := fun h => Lib.hid (msgNum_any b 8 (by simp only [maxLen]; omega) h)
  have HN10 := fun h => Lib.hid (msgNum_any b 10 (by simp only [maxLen]; omega) h)
  obtain ⟨n, hnn⟩ : ∃ n : Nat, num b 2 2 = n := Int.eq_ofNat_of_zero_le hn.1
  rw [hnn] at HR1 HN2 hn
  rw [Int.toNat_natCast] at HR1
  generalize byte b 0 = y0 at *
  generalize byte b 1 = y1 at *
  have hs8 := seq8 y0 hb0
  clear hnn
  by_cases t2 : ¬ (y0 = 64 ∨ y0 = 72) ∨ y1 ≠ 2
  · have hr := HR1.out
    rw [if_pos t2] at hr
    subst hr
    clear HR1
    simp only [Ld.zero, Ld.agg]
    by_cases t3 : y0 = 64 ∨ y0 = 72
    · have t4 : y1 ≠ 2 := by rcases t2 with h | h; exact absurd t3 h; exact h
      have r0 : (bits .andNot .u8 y0 8 != 64) = false := by rw [hs8]; rcases t3 with h | h <;> rw [h] <;> rfl
      have r1 : (y1 != 2) = true := by simpa using t4
      clear t2 t3 t4 hs8
      cases hsq : (bits .and .u8 y0 8 != 0)
      · go_enter Try.func16, Try.ntmps16
        go_wp2_with fail
        refine (HN2.out _).mono ?_
        rintro e w1 ⟨rfl, rfl⟩
        go_wp2_with fail
        exact bodyPost_ret (v := .tuple #[.agg #[.int .i64 0, .int .i64 0, .bool false, .int .i64 0, .int .i64 0, .string ⟨#[]⟩], .int .i64 4]) (by simp [results, Try.results16, go_sem]) rfl ⟨rfl, (by repeat (first | refine Upd.setCell _ ?_ (.inr (by simp)) | refine Upd.alloc _ ?_ | exact Upd.refl _ _))⟩
      · go_enter Try.func16, Try.ntmps16
        go_wp2_with fail
        refine (HN2.out _).mono ?_
        rintro e w1 ⟨rfl, rfl⟩
        go_wp2_with fail
        exact bodyPost_ret (v := .tuple #[.agg #[.int .i64 0, .int .i64 0, .bool false, .int .i64 0, .int .i64 0, .string ⟨#[]⟩], .int .i64 4]) (by simp [results, Try.results16, go_sem]) rfl ⟨rfl, (by repeat (first | refine Upd.setCell _ ?_ (.inr (by simp)) | refine Upd.alloc _ ?_ | exact Upd.refl _ _))⟩
    · have r0 : (bits .andNot .u8 y0 8 != 64) = true := by rw [hs8]; simp; omega
      clear t2 t3 hs8
      cases hsq : (bits .and .u8 y0 8 != 0)
      · go_enter Try.func16, Try.ntmps16
        go_wp2_with fail
        refine (HN2.out _).mono ?_
        rintro e w1 ⟨rfl, rfl⟩
        go_wp2_with fail
        exact bodyPost_ret (v := .tuple #[.agg #[.int .i64 0, .int .i64 0, .bool false, .int .i64 0, .int .i64 0, .string ⟨#[]⟩], .int .i64 4]) (by simp [results, Try.results16, go_sem]) rfl ⟨rfl, (by repeat (first | refine Upd.setCell _ ?_ (.inr (by simp)) | refine Upd.alloc _ ?_ | exact Upd.refl _ _))⟩
      · go_enter Try.func16, Try.ntmps16
        go_wp2_with fail
        refine (HN2.out _).mono ?_
        rintro e w1 ⟨rfl, rfl⟩
        go_wp2_with fail
        exact bodyPost_ret (v := .tuple #[.agg #[.int .i64 0, .int .i64 0, .bool false, .int .i64 0, .int .i64 0, .string ⟨#[]⟩], .int .i64 4]) (by simp [results, Try.results16, go_sem]) rfl ⟨rfl, (by repeat (first | refine Upd.setCell _ ?_ (.inr (by simp)) | refine Upd.alloc _ ?_ | exact Upd.refl _ _))⟩
  have HR2 : Hid (_ = R) := (if_neg t2).symm.trans HR1.out
  have t3 : y0 = 64 ∨ y0 = 72 := Classical.byContradiction fun h => t2 (.inl h)
  have r1 : y1 = 2 := Classical.byContradiction fun h => t2 (.inr h)
  have r0 : (bits .andNot .u8 y0 8 != 64) = false := by rw [hs8]; rcases t3 with h | h <;> rw [h] <;> rfl
  subst r1
  clear HR1 t2 hs8
  rcases t3 with hy | hy
  · have ha : (bits .and .u8 y0 8 != 0) = false := by rw [hy]; decide
    subst hy
    by_cases t4 : (b.size : Int) < n
    · have hr := HR2.out
      rw [if_pos t4] at hr
      subst hr
      clear HR2
      simp only [Ld.zero, Ld.agg]
      go_enter Try.func16, Try.ntmps16
      go_wp2_with fail
      refine (HN2.out _).mono ?_
      rintro e w1 ⟨rfl, rfl⟩
      go_wp2_with fail
      exact bodyPost_ret (v := .tuple #[.agg #[.int .i64 0, .int .i64 0, .bool false, .int .i64 0, .int .i64 0, .string ⟨#[]⟩], .int .i64 5]) (by simp [results, Try.results16, go_sem]) rfl ⟨rfl, (by repeat (first | refine Upd.setCell _ ?_ (.inr (by simp)) | refine Upd.alloc _ ?_ | exact Upd.refl _ _))⟩
    have HR3 : Hid (_ = R) := (if_neg t4).symm.trans HR2.out
    clear HR2
    by_cases t5 : (n : Int) < 8
    · have t5' : (n : Int) < (if (64 : Int) = 72 then 12 else 8) := t5
      have hr := HR3.out
      rw [if_pos t5'] at hr
      subst hr
      clear HR3
      simp only [Ld.zero, Ld.agg]
      clear t5'
      go_enter Try.func16, Try.ntmps16
      go_wp2_with fail
      refine (HN2.out _).mono ?_
      rintro e w1 ⟨rfl, rfl⟩
      go_wp2_with fail
      exact bodyPost_ret (v := .tuple #[.agg #[.int .i64 0, .int .i64 0, .bool false, .int .i64 0, .int .i64 0, .string ⟨#[]⟩], .int .i64 4]) (by simp [results, Try.results16, go_sem]) rfl ⟨rfl, (by repeat (first | refine Upd.setCell _ ?_ (.inr (by simp)) | refine Upd.alloc _ ?_ | exact Upd.refl _ _))⟩
    have t5' : ¬ (n : Int) < (if (64 : Int) = 72 then 12 else 8) := t5
    have HR4 : Hid (_ = R) := (if_neg t5').symm.trans HR3.out
    clear HR3 t5'
    by_cases t6 : 1460 < (n : Int) - 8
    · have t6' : 1460 < (n : Int) - (if (64 : Int) = 72 then 12 else 8) := t6
      have hr := HR4.out
      rw [if_pos t6'] at hr
      subst hr
      clear HR4
      simp only [Ld.zero, Ld.agg]
      clear t6'
      go_enter Try.func16, Try.ntmps16
      go_wp2_with fail
      refine (HN2.out _).mono ?_
      rintro e w1 ⟨rfl, rfl⟩
      go_wp2_with fail
      exact bodyPost_ret (v := .tuple #[.agg #[.int .i64 0, .int .i64 0, .bool false, .int .i64 0, .int .i64 0, .string ⟨#[]⟩], .int .i64 2]) (by simp [results, Try.results16, go_sem]) rfl ⟨rfl, (by repeat (first | refine Upd.setCell _ ?_ (.inr (by simp)) | refine Upd.alloc _ ?_ | exact Upd.refl _ _))⟩
    have t6' : ¬ 1460 < (n : Int) - (if (64 : Int) = 72 then 12 else 8) := t6
    have HR5 : Hid (_ = R) := (if_neg t6').symm.trans HR4.out
    clear HR4 t6'
    have hr := HR5.out
    rw [if_neg (by decide)] at hr
    subst hr
    clear HR5
    obtain ⟨d, hd⟩ : ∃ d, b.extract 8 n = d := ⟨_, rfl⟩
    have hdz : d.size ≤ 1460 := by rw [← hd, ByteArray.size_extract]; omega
    have HEX := Lib.hid hd
    have HDZ := Lib.hid hdz
    rw [hd]
    have B2 : Hid (Blk (w.alloc (.cells #[.int .i64 0, .int .i64 0, .bool false, .int .i64 0, .int .i64 0, .string ⟨#[]⟩] 42)) w.heap.size 42 #[.int .i64 0, .int .i64 0, .bool false, .int .i64 0, .int .i64 0, .string ⟨#[]⟩]) := Blk.new _ _ _
    have U2 : Hid (Upd [] w (w.alloc (.cells #[.int .i64 0, .int .i64 0, .bool false, .int .i64 0, .int .i64 0, .string ⟨#[]⟩] 42))) := (Upd.refl _ _).alloc _
    clear HN8 HN10
    clear hd hdz
    simp only [Ld.agg]
    generalize num b 4 2 = k4 at *
    generalize num b 6 2 = k6 at *
    go_enter Try.func16, Try.ntmps16
    go_wp2_with fail
    refine (HN2.out _).mono ?_
    rintro e w1 ⟨rfl, rfl⟩
    go_wp2_with fail
    generalize w.alloc (.cells #[.int .i64 0, .int .i64 0, .bool false, .int .i64 0, .int .i64 0, .string ⟨#[]⟩] 42) = wz at *
    have hpz : w.heap.size < wz.heap.size := B2.out.lt
    refine wp_region_chain [some (.string b), some (.int .i64 k4), some (.string b), some (.int .i64 k6), some (.bool false), some (.string b), some (.int .i64 8), some (.int .i64 n), some (.string d), some (.string d), some (.agg #[.int .i64 k4, .int .i64 k6, .bool false, .int .i64 0, .int .i64 0, .string d]), none, none] [11,12] (glA wz #[.int .i64 k4, .int .i64 k6, .bool false, .int .i64 0, .int .i64 0, .string d]) [(0, 1), (0, 1), (0, 1), (0, 1), (0, 1), (0, 1), (0, 1), (0, 1), (0, 1), (0, 1), (0, 1), (0, 0), (1, 1)] (by kernel_rfl) (by kernel_rfl) (by kernel_rfl) (by kernel_rfl) (by kernel_rfl) (by kernel_rfl) ((Upd.refl _ _).drew) ?_ ?_
    · refine StepsC.cons ?_ (StepsC.cons ?_ (StepsC.cons ?_ (StepsC.cons ?_ (StepsC.cons ?_ (StepsC.cons ?_ (StepsC.cons ?_ (StepsC.cons ?_ (StepsC.cons ?_ (StepsC.cons ?_ (StepsC.cons ?_ (StepsC.cons ?_ (StepsC.cons ?_ StepsC.nil))))))))))))
      · refine chain_is _ (.inl rfl) ⟨_, rfl⟩ (by kernel_rfl) rfl ?_
        intro a W kst l0 h0 A0 hF hD
        have e0 : a.tmps[0]?.getD undef = _ := (ev a 0).symm.trans (hF 0 (by kernel_rfl))
        clear hF hD
        go_simp
      · refine chain_beside _ (.inl rfl) ⟨_, rfl⟩ (by kernel_rfl) rfl ?_
        intro a W kst l0 h0 A0 hF hD
        have e47 : a.tmps[47]?.getD undef = .string b := (ev a 47).symm.trans (hD _ (Array.mem_of_getElem? (i := 0) rfl) rfl)
        clear hF hD
        refine ⟨_, _, by (go_simp; first | done | rfl | exact ⟨rfl, rfl⟩), ?_⟩
        refine (HN4.out _).mono ?_
        rintro e wq ⟨rfl, rfl⟩
        exact ⟨rfl, A0⟩
      · refine chain_is _ (.inl rfl) ⟨_, rfl⟩ (by kernel_rfl) rfl ?_
        intro a W kst l0 h0 A0 hF hD
        have e0 : a.tmps[0]?.getD undef = _ := (ev a 0).symm.trans (hF 0 (by kernel_rfl))
        clear hF hD
        go_simp
      · refine chain_beside _ (.inl rfl) ⟨_, rfl⟩ (by kernel_rfl) rfl ?_
        intro a W kst l0 h0 A0 hF hD
        have e49 : a.tmps[49]?.getD undef = .string b := (ev a 49).symm.trans (hD _ (Array.mem_of_getElem? (i := 0) rfl) rfl)
        clear hF hD
        refine ⟨_, _, by (go_simp; first | done | rfl | exact ⟨rfl, rfl⟩), ?_⟩
        refine (HN6.out _).mono ?_
        rintro e wq ⟨rfl, rfl⟩
        exact ⟨rfl, A0⟩
      · refine chain_is _ (.inl rfl) ⟨_, rfl⟩ (by kernel_rfl) rfl ?_
        intro a W kst l0 h0 A0 hF hD
        have e4 : a.tmps[4]?.getD undef = _ := (ev a 4).symm.trans (hF 4 (by kernel_rfl))
        clear hF hD
        go_simp
      · refine chain_is _ (.inl rfl) ⟨_, rfl⟩ (by kernel_rfl) rfl ?_
        intro a W kst l0 h0 A0 hF hD
        have e0 : a.tmps[0]?.getD undef = _ := (ev a 0).symm.trans (hF 0 (by kernel_rfl))
        clear hF hD
        go_simp
      · refine chain_is _ (.inl rfl) ⟨_, rfl⟩ (by kernel_rfl) rfl ?_
        intro a W kst l0 h0 A0 hF hD
        have e5 : a.tmps[5]?.getD undef = _ := (ev a 5).symm.trans (hF 5 (by kernel_rfl))
        clear hF hD
        go_simp
      · refine chain_is _ (.inl rfl) ⟨_, rfl⟩ (by kernel_rfl) rfl ?_
        intro a W kst l0 h0 A0 hF hD
        have e6 : a.tmps[6]?.getD undef = _ := (ev a 6).symm.trans (hF 6 (by kernel_rfl))
        clear hF hD
        go_simp
      · refine chain_is _ (.inl rfl) ⟨_, rfl⟩ (by kernel_rfl) rfl ?_
        intro a W kst l0 h0 A0 hF hD
        have e52 : a.tmps[52]?.getD undef = .string b := (ev a 52).symm.trans (hD _ (Array.mem_of_getElem? (i := 0) rfl) rfl)
        have e53 : a.tmps[53]?.getD undef = .int .i64 8 := (ev a 53).symm.trans (hD _ (Array.mem_of_getElem? (i := 1) rfl) rfl)
        have e54 : a.tmps[54]?.getD undef = .int .i64 n := (ev a 54).symm.trans (hD _ (Array.mem_of_getElem? (i := 2) rfl) rfl)
        clear hF hD
        have := HEX.out
        go_simp
      · refine chain_beside _ (.inl rfl) ⟨_, rfl⟩ (by kernel_rfl) rfl ?_
        intro a W kst l0 h0 A0 hF hD
        have e55 : a.tmps[55]?.getD undef = .string d := (ev a 55).symm.trans (hD _ (Array.mem_of_getElem? (i := 0) rfl) rfl)
        clear hF hD
        refine ⟨_, _, by (go_simp; first | done | rfl | exact ⟨rfl, rfl⟩), ?_⟩
        refine (clone_any d _ (by have := HDZ.out; omega)).mono ?_
        rintro e wq ⟨rfl, hu⟩
        exact ⟨rfl, glA_keep A0 hu⟩
      · refine chain_is _ (.inl rfl) ⟨_, rfl⟩ (by kernel_rfl) rfl ?_
        intro a W kst l0 h0 A0 hF hD
        have e48 : a.tmps[48]?.getD undef = .int .i64 k4 := (ev a 48).symm.trans (hD _ (Array.mem_of_getElem? (i := 0) rfl) rfl)
        have e50 : a.tmps[50]?.getD undef = .int .i64 k6 := (ev a 50).symm.trans (hD _ (Array.mem_of_getElem? (i := 1) rfl) rfl)
        have e51 : a.tmps[51]?.getD undef = .bool false := (ev a 51).symm.trans (hD _ (Array.mem_of_getElem? (i := 2) rfl) rfl)
        have e56 : a.tmps[56]?.getD undef = .string d := (ev a 56).symm.trans (hD _ (Array.mem_of_getElem? (i := 3) rfl) rfl)
        clear hF hD
        go_simp
      · refine chain_run (.inl rfl) ⟨_, rfl⟩ (by kernel_rfl) ?_
        intro a W kst l0 h0 A0 hF hD
        have k0 : kst = 0 := Nat.le_antisymm h0 l0
        subst k0
        clear l0 h0
        clear hF hD
        have hu : Upd [] wz W := A0
        exact ⟨.pointer (some ⟨W.heap.size, 0, none⟩), W.alloc (.cells #[.int .i64 0, .int .i64 0, .bool false, .int .i64 0, .int .i64 0, .string ⟨#[]⟩] 42), by go_simp, trivial, hu.alloc _, W.heap.size, hu.size, rfl, Blk.new _ _ _⟩
      · refine chain_set (.inl rfl) rfl (by kernel_rfl) trivial ?_
        intro a W kst l0 h0 A0 hF hD
        have k0 : kst = 1 := Nat.le_antisymm h0 l0
        subst k0
        clear l0 h0
        have e57 : a.tmps[57]?.getD undef = .agg #[.int .i64 k4, .int .i64 k6, .bool false, .int .i64 0, .int .i64 0, .string d] := (ev a 57).symm.trans (hD _ (Array.mem_of_getElem? (i := 1) rfl) rfl)
        clear hF hD
        obtain ⟨hu, g, hg1, hg2, hg3⟩ := A0
        have e7 : a.tmps[7]?.getD undef = _ := (ev a 7).symm.trans hg2
        have f0 := hg3.frozen 0
        have f1 := hg3.frozen 1
        have f2 := hg3.frozen 2
        have f3 := hg3.frozen 3
        have f4 := hg3.frozen 4
        have f5 := hg3.frozen 5
        have c0 := hg3.cell 0
        have c1 := hg3.cell 1
        have c2 := hg3.cell 2
        have c3 := hg3.cell 3
        have c4 := hg3.cell 4
        have c5 := hg3.cell 5
        simp at c0 c1 c2 c3 c4 c5
        exact ⟨(((((W.setCell ⟨g, 0, none⟩ (.int .i64 k4)).setCell ⟨g, 1, none⟩ (.int .i64 k6)).setCell ⟨g, 2, none⟩ (.bool false)).setCell ⟨g, 3, none⟩ (.int .i64 0)).setCell ⟨g, 4, none⟩ (.int .i64 0)).setCell ⟨g, 5, none⟩ (.string d), by (go_simp; first | done | rfl | exact ⟨rfl, rfl⟩), (((((hu.setCell _ (.inr hg1)).setCell _ (.inr hg1)).setCell _ (.inr hg1)).setCell _ (.inr hg1)).setCell _ (.inr hg1)).setCell _ (.inr hg1), g, hg1, hg2, (((((hg3.set_ 0 _).set_ 1 _).set_ 2 _).set_ 3 _).set_ 4 _).set_ 5 _⟩
    intro vals W hv hA
    have v0 : vals 0 = .string b := hv 0 (by decide)
    have v1 : vals 1 = .int .i64 k4 := hv 1 (by decide)
    have v2 : vals 2 = .string b := hv 2 (by decide)
    have v3 : vals 3 = .int .i64 k6 := hv 3 (by decide)
    have v4 : vals 4 = .bool false := hv 4 (by decide)
    have v5 : vals 5 = .string b := hv 5 (by decide)
    have v6 : vals 6 = .int .i64 8 := hv 6 (by decide)
    have v7 : vals 7 = .int .i64 n := hv 7 (by decide)
    have v8 : vals 8 = .string d := hv 8 (by decide)
    have v9 : vals 9 = .string d := hv 9 (by decide)
    have v10 : vals 10 = .agg #[.int .i64 k4, .int .i64 k6, .bool false, .int .i64 0, .int .i64 0, .string d] := hv 10 (by decide)
    clear hv
    obtain ⟨hu, g, hg1, hv11, hg3⟩ := hA
    have v11 : vals 11 = .pointer (some ⟨g, 0, none⟩) := hv11
    simp only [putAll, Act.put, Nat.zero_add, Nat.reduceAdd, v11, v0, v1, v2, v3, v4, v5, v6, v7, v8, v9, v10, List.setIfInBounds_toArray, List.set_cons_zero, List.set_cons_succ]
    clear v0 v1 v2 v3 v4 v5 v6 v7 v8 v9 v10
    have B7 := Lib.hid hg3
    have UW : Hid (Upd [] w W) := U2.out.trans hu
    have BR := Lib.hid (B2.out.upd hu (by simp))
    have hgw : w.heap.size < g := by omega
    have lg : g < W.heap.size := hg3.lt
    have lw : w.heap.size < W.heap.size := BR.out.lt
    clear hu hv11 v11 hg3
    have f0 := B7.out.frozen 0
    have f1 := B7.out.frozen 1
    have f2 := B7.out.frozen 2
    have f3 := B7.out.frozen 3
    have f4 := B7.out.frozen 4
    have f5 := B7.out.frozen 5
    have c0 := B7.out.cell 0
    have c1 := B7.out.cell 1
    have c2 := B7.out.cell 2
    have c3 := B7.out.cell 3
    have c4 := B7.out.cell 4
    have c5 := B7.out.cell 5
    simp at c0 c1 c2 c3 c4 c5
    have k0 := BR.out.frozen 0
    have k1 := BR.out.frozen 1
    have k2 := BR.out.frozen 2
    have k3 := BR.out.frozen 3
    have k4 := BR.out.frozen 4
    have k5 := BR.out.frozen 5
    have d0 := BR.out.cell 0
    have d1 := BR.out.cell 1
    have d2 := BR.out.cell 2
    have d3 := BR.out.cell 3
    have d4 := BR.out.cell 4
    have d5 := BR.out.cell 5
    simp at d0 d1 d2 d3 d4 d5
    go_wp2_with fail
    clear f0 f1 f2 f3 f4 f5 c0 c1 c2 c3 c4 c5 k0 k1 k2 k3 k4 k5 d0 d1 d2 d3 d4 d5
    have RR := ((((((BR.out.set_ 0 (.int .i64 k4)).set_ 1 (.int .i64 k6)).set_ 2 (.bool false)).set_ 3 (.int .i64 0)).set_ 4 (.int .i64 0)).set_ 5 (.string d))
    have c0 := RR.cell 0
    have c1 := RR.cell 1
    have c2 := RR.cell 2
    have c3 := RR.cell 3
    have c4 := RR.cell 4
    have c5 := RR.cell 5
    simp at c0 c1 c2 c3 c4 c5
    have UU := (((((UW.out.setCell (p := ⟨w.heap.size, 0, none⟩) (.int .i64 k4) (.inr (Nat.le_refl _))).setCell (p := ⟨w.heap.size, 1, none⟩) (.int .i64 k6) (.inr (Nat.le_refl _))).setCell (p := ⟨w.heap.size, 2, none⟩) (.bool false) (.inr (Nat.le_refl _))).setCell (p := ⟨w.heap.size, 3, none⟩) (.int .i64 0) (.inr (Nat.le_refl _))).setCell (p := ⟨w.heap.size, 4, none⟩) (.int .i64 0) (.inr (Nat.le_refl _))).setCell (p := ⟨w.heap.size, 5, none⟩) (.string d) (.inr (Nat.le_refl _))
    exact bodyPost_ret (v := .tuple #[.agg #[.int .i64 k4, .int .i64 k6, .bool false, .int .i64 0, .int .i64 0, .string d], .int .i64 0]) (by simp [results, Try.results16, go_sem, c0, c1, c2, c3, c4, c5]) rfl ⟨rfl, UU⟩
  · have ha : (bits .and .u8 y0 8 != 0) = true := by rw [hy]; decide
    subst hy
    by_cases t4 : (b.size : Int) < n
    · have hr := HR2.out
      rw [if_pos t4] at hr
      subst hr
      clear HR2
      simp only [Ld.zero, Ld.agg]
      go_enter Try.func16, Try.ntmps16
      go_wp2_with fail
      refine (HN2.out _).mono ?_
      rintro e w1 ⟨rfl, rfl⟩
      go_wp2_with fail
      exact bodyPost_ret (v := .tuple #[.agg #[.int .i64 0, .int .i64 0, .bool false, .int .i64 0, .int .i64 0, .string ⟨#[]⟩], .int .i64 5]) (by simp [results, Try.results16, go_sem]) rfl ⟨rfl, (by repeat (first | refine Upd.setCell _ ?_ (.inr (by simp)) | refine Upd.alloc _ ?_ | exact Upd.refl _ _))⟩
    have HR3 : Hid (_ = R) := (if_neg t4).symm.trans HR2.out
    clear HR2
    by_cases t5 : (n : Int) < 12
    · have t5' : (n : Int) < (if (72 : Int) = 72 then 12 else 8) := t5
      have hr := HR3.out
      rw [if_pos t5'] at hr
      subst hr
      clear HR3
      simp only [Ld.zero, Ld.agg]
      clear t5'
      go_enter Try.func16, Try.ntmps16
      go_wp2_with fail
      refine (HN2.out _).mono ?_
      rintro e w1 ⟨rfl, rfl⟩
      go_wp2_with fail
      exact bodyPost_ret (v := .tuple #[.agg #[.int .i64 0, .int .i64 0, .bool false, .int .i64 0, .int .i64 0, .string ⟨#[]⟩], .int .i64 4]) (by simp [results, Try.results16, go_sem]) rfl ⟨rfl, (by repeat (first | refine Upd.setCell _ ?_ (.inr (by simp)) | refine Upd.alloc _ ?_ | exact Upd.refl _ _))⟩
    have t5' : ¬ (n : Int) < (if (72 : Int) = 72 then 12 else 8) := t5
    have HR4 : Hid (_ = R) := (if_neg t5').symm.trans HR3.out
    clear HR3 t5'
    by_cases t6 : 1460 < (n : Int) - 12
    · have t6' : 1460 < (n : Int) - (if (72 : Int) = 72 then 12 else 8) := t6
      have hr := HR4.out
      rw [if_pos t6'] at hr
      subst hr
      clear HR4
      simp only [Ld.zero, Ld.agg]
      clear t6'
      go_enter Try.func16, Try.ntmps16
      go_wp2_with fail
      refine (HN2.out _).mono ?_
      rintro e w1 ⟨rfl, rfl⟩
      go_wp2_with fail
      exact bodyPost_ret (v := .tuple #[.agg #[.int .i64 0, .int .i64 0, .bool false, .int .i64 0, .int .i64 0, .string ⟨#[]⟩], .int .i64 2]) (by simp [results, Try.results16, go_sem]) rfl ⟨rfl, (by repeat (first | refine Upd.setCell _ ?_ (.inr (by simp)) | refine Upd.alloc _ ?_ | exact Upd.refl _ _))⟩
    have t6' : ¬ 1460 < (n : Int) - (if (72 : Int) = 72 then 12 else 8) := t6
    have HR5 : Hid (_ = R) := (if_neg t6').symm.trans HR4.out
    clear HR4 t6'
    have hr := HR5.out
    rw [if_pos rfl] at hr
    subst hr
    clear HR5
    obtain ⟨d, hd⟩ : ∃ d, b.extract 12 n = d := ⟨_, rfl⟩
    have hdz : d.size ≤ 1460 := by rw [← hd, ByteArray.size_extract]; omega
    have HEX := Lib.hid hd
    have HDZ := Lib.hid hdz
    rw [hd]
    have B2 : Hid (Blk (w.alloc (.cells #[.int .i64 0, .int .i64 0, .bool false, .int .i64 0, .int .i64 0, .string ⟨#[]⟩] 42)) w.heap.size 42 #[.int .i64 0, .int .i64 0, .bool false, .int .i64 0, .int .i64 0, .string ⟨#[]⟩]) := Blk.new _ _ _
    have U2 : Hid (Upd [] w (w.alloc (.cells #[.int .i64 0, .int .i64 0, .bool false, .int .i64 0, .int .i64 0, .string ⟨#[]⟩] 42))) := (Upd.refl _ _).alloc _
    replace HN8 := HN8 (by omega)
    replace HN10 := HN10 (by omega)
    clear hd hdz
    simp only [Ld.agg]
    generalize num b 4 2 = k4 at *
    generalize num b 6 2 = k6 at *
    generalize num b 8 2 = k8 at *
    generalize num b 10 2 = k10 at *
    go_enter Try.func16, Try.ntmps16
    go_wp2_with fail
    refine (HN2.out _).mono ?_
    rintro e w1 ⟨rfl, rfl⟩
    go_wp2_with fail
    generalize w.alloc (.cells #[.int .i64 0, .int .i64 0, .bool false, .int .i64 0, .int .i64 0, .string ⟨#[]⟩] 42) = wz at *
    have hpz : w.heap.size < wz.heap.size := B2.out.lt
    refine wp_region_chain [some (.string b), some (.int .i64 k4), some (.string b), some (.int .i64 k6), some (.bool true), some (.string b), some (.int .i64 12), some (.int .i64 n), some (.string d), some (.string d), some (.agg #[.int .i64 k4, .int .i64 k6, .bool true, .int .i64 0, .int .i64 0, .string d]), none, none] [11,12] (glA wz #[.int .i64 k4, .int .i64 k6, .bool true, .int .i64 0, .int .i64 0, .string d]) [(0, 1), (0, 1), (0, 1), (0, 1), (0, 1), (0, 1), (0, 1), (0, 1), (0, 1), (0, 1), (0, 1), (0, 0), (1, 1)] (by kernel_rfl) (by kernel_rfl) (by kernel_rfl) (by kernel_rfl) (by kernel_rfl) (by kernel_rfl) ((Upd.refl _ _).drew) ?_ ?_
    · refine StepsC.cons ?_ (StepsC.cons ?_ (StepsC.cons ?_ (StepsC.cons ?_ (StepsC.cons ?_ (StepsC.cons ?_ (StepsC.cons ?_ (StepsC.cons ?_ (StepsC.cons ?_ (StepsC.cons ?_ (StepsC.cons ?_ (StepsC.cons ?_ (StepsC.cons ?_ StepsC.nil))))))))))))
      · refine chain_is _ (.inl rfl) ⟨_, rfl⟩ (by kernel_rfl) rfl ?_
        intro a W kst l0 h0 A0 hF hD
        have e0 : a.tmps[0]?.getD undef = _ := (ev a 0).symm.trans (hF 0 (by kernel_rfl))
        clear hF hD
        go_simp
      · refine chain_beside _ (.inl rfl) ⟨_, rfl⟩ (by kernel_rfl) rfl ?_
        intro a W kst l0 h0 A0 hF hD
        have e47 : a.tmps[47]?.getD undef = .string b := (ev a 47).symm.trans (hD _ (Array.mem_of_getElem? (i := 0) rfl) rfl)
        clear hF hD
        refine ⟨_, _, by (go_simp; first | done | rfl | exact ⟨rfl, rfl⟩), ?_⟩
        refine (HN4.out _).mono ?_
        rintro e wq ⟨rfl, rfl⟩
        exact ⟨rfl, A0⟩
      · refine chain_is _ (.inl rfl) ⟨_, rfl⟩ (by kernel_rfl) rfl ?_
        intro a W kst l0 h0 A0 hF hD
        have e0 : a.tmps[0]?.getD undef = _ := (ev a 0).symm.trans (hF 0 (by kernel_rfl))
        clear hF hD
        go_simp
      · refine chain_beside _ (.inl rfl) ⟨_, rfl⟩ (by kernel_rfl) rfl ?_
        intro a W kst l0 h0 A0 hF hD
        have e49 : a.tmps[49]?.getD undef = .string b := (ev a 49).symm.trans (hD _ (Array.mem_of_getElem? (i := 0) rfl) rfl)
        clear hF hD
        refine ⟨_, _, by (go_simp; first | done | rfl | exact ⟨rfl, rfl⟩), ?_⟩
        refine (HN6.out _).mono ?_
        rintro e wq ⟨rfl, rfl⟩
        exact ⟨rfl, A0⟩
      · refine chain_is _ (.inl rfl) ⟨_, rfl⟩ (by kernel_rfl) rfl ?_
        intro a W kst l0 h0 A0 hF hD
        have e4 : a.tmps[4]?.getD undef = _ := (ev a 4).symm.trans (hF 4 (by kernel_rfl))
        clear hF hD
        go_simp
      · refine chain_is _ (.inl rfl) ⟨_, rfl⟩ (by kernel_rfl) rfl ?_
        intro a W kst l0 h0 A0 hF hD
        have e0 : a.tmps[0]?.getD undef = _ := (ev a 0).symm.trans (hF 0 (by kernel_rfl))
        clear hF hD
        go_simp
      · refine chain_is _ (.inl rfl) ⟨_, rfl⟩ (by kernel_rfl) rfl ?_
        intro a W kst l0 h0 A0 hF hD
        have e5 : a.tmps[5]?.getD undef = _ := (ev a 5).symm.trans (hF 5 (by kernel_rfl))
        clear hF hD
        go_simp
      · refine chain_is _ (.inl rfl) ⟨_, rfl⟩ (by kernel_rfl) rfl ?_
        intro a W kst l0 h0 A0 hF hD
        have e6 : a.tmps[6]?.getD undef = _ := (ev a 6).symm.trans (hF 6 (by kernel_rfl))
        clear hF hD
        go_simp
      · refine chain_is _ (.inl rfl) ⟨_, rfl⟩ (by kernel_rfl) rfl ?_
        intro a W kst l0 h0 A0 hF hD
        have e52 : a.tmps[52]?.getD undef = .string b := (ev a 52).symm.trans (hD _ (Array.mem_of_getElem? (i := 0) rfl) rfl)
        have e53 : a.tmps[53]?.getD undef = .int .i64 12 := (ev a 53).symm.trans (hD _ (Array.mem_of_getElem? (i := 1) rfl) rfl)
        have e54 : a.tmps[54]?.getD undef = .int .i64 n := (ev a 54).symm.trans (hD _ (Array.mem_of_getElem? (i := 2) rfl) rfl)
        clear hF hD
        have := HEX.out
        go_simp
      · refine chain_beside _ (.inl rfl) ⟨_, rfl⟩ (by kernel_rfl) rfl ?_
        intro a W kst l0 h0 A0 hF hD
        have e55 : a.tmps[55]?.getD undef = .string d := (ev a 55).symm.trans (hD _ (Array.mem_of_getElem? (i := 0) rfl) rfl)
        clear hF hD
        refine ⟨_, _, by (go_simp; first | done | rfl | exact ⟨rfl, rfl⟩), ?_⟩
        refine (clone_any d _ (by have := HDZ.out; omega)).mono ?_
        rintro e wq ⟨rfl, hu⟩
        exact ⟨rfl, glA_keep A0 hu⟩
      · refine chain_is _ (.inl rfl) ⟨_, rfl⟩ (by kernel_rfl) rfl ?_
        intro a W kst l0 h0 A0 hF hD
        have e48 : a.tmps[48]?.getD undef = .int .i64 k4 := (ev a 48).symm.trans (hD _ (Array.mem_of_getElem? (i := 0) rfl) rfl)
        have e50 : a.tmps[50]?.getD undef = .int .i64 k6 := (ev a 50).symm.trans (hD _ (Array.mem_of_getElem? (i := 1) rfl) rfl)
        have e51 : a.tmps[51]?.getD undef = .bool true := (ev a 51).symm.trans (hD _ (Array.mem_of_getElem? (i := 2) rfl) rfl)
        have e56 : a.tmps[56]?.getD undef = .string d := (ev a 56).symm.trans (hD _ (Array.mem_of_getElem? (i := 3) rfl) rfl)
        clear hF hD
        go_simp
      · refine chain_run (.inl rfl) ⟨_, rfl⟩ (by kernel_rfl) ?_
        intro a W kst l0 h0 A0 hF hD
        have k0 : kst = 0 := Nat.le_antisymm h0 l0
        subst k0
        clear l0 h0
        clear hF hD
        have hu : Upd [] wz W := A0
        exact ⟨.pointer (some ⟨W.heap.size, 0, none⟩), W.alloc (.cells #[.int .i64 0, .int .i64 0, .bool false, .int .i64 0, .int .i64 0, .string ⟨#[]⟩] 42), by go_simp, trivial, hu.alloc _, W.heap.size, hu.size, rfl, Blk.new _ _ _⟩
      · refine chain_set (.inl rfl) rfl (by kernel_rfl) trivial ?_
        intro a W kst l0 h0 A0 hF hD
        have k0 : kst = 1 := Nat.le_antisymm h0 l0
        subst k0
        clear l0 h0
        have e57 : a.tmps[57]?.getD undef = .agg #[.int .i64 k4, .int .i64 k6, .bool true, .int .i64 0, .int .i64 0, .string d] := (ev a 57).symm.trans (hD _ (Array.mem_of_getElem? (i := 1) rfl) rfl)
        clear hF hD
        obtain ⟨hu, g, hg1, hg2, hg3⟩ := A0
        have e7 : a.tmps[7]?.getD undef = _ := (ev a 7).symm.trans hg2
        have f0 := hg3.frozen 0
        have f1 := hg3.frozen 1
        have f2 := hg3.frozen 2
        have f3 := hg3.frozen 3
        have f4 := hg3.frozen 4
        have f5 := hg3.frozen 5
        have c0 := hg3.cell 0
        have c1 := hg3.cell 1
        have c2 := hg3.cell 2
        have c3 := hg3.cell 3
        have c4 := hg3.cell 4
        have c5 := hg3.cell 5
        simp at c0 c1 c2 c3 c4 c5
        exact ⟨(((((W.setCell ⟨g, 0, none⟩ (.int .i64 k4)).setCell ⟨g, 1, none⟩ (.int .i64 k6)).setCell ⟨g, 2, none⟩ (.bool true)).setCell ⟨g, 3, none⟩ (.int .i64 0)).setCell ⟨g, 4, none⟩ (.int .i64 0)).setCell ⟨g, 5, none⟩ (.string d), by (go_simp; first | done | rfl | exact ⟨rfl, rfl⟩), (((((hu.setCell _ (.inr hg1)).setCell _ (.inr hg1)).setCell _ (.inr hg1)).setCell _ (.inr hg1)).setCell _ (.inr hg1)).setCell _ (.inr hg1), g, hg1, hg2, (((((hg3.set_ 0 _).set_ 1 _).set_ 2 _).set_ 3 _).set_ 4 _).set_ 5 _⟩
    intro vals W hv hA
    have v0 : vals 0 = .string b := hv 0 (by decide)
    have v1 : vals 1 = .int .i64 k4 := hv 1 (by decide)
    have v2 : vals 2 = .string b := hv 2 (by decide)
    have v3 : vals 3 = .int .i64 k6 := hv 3 (by decide)
    have v4 : vals 4 = .bool true := hv 4 (by decide)
    have v5 : vals 5 = .string b := hv 5 (by decide)
    have v6 : vals 6 = .int .i64 12 := hv 6 (by decide)
    have v7 : vals 7 = .int .i64 n := hv 7 (by decide)
    have v8 : vals 8 = .string d := hv 8 (by decide)
    have v9 : vals 9 = .string d := hv 9 (by decide)
    have v10 : vals 10 = .agg #[.int .i64 k4, .int .i64 k6, .bool true, .int .i64 0, .int .i64 0, .string d] := hv 10 (by decide)
    clear hv
    obtain ⟨hu, g, hg1, hv11, hg3⟩ := hA
    have v11 : vals 11 = .pointer (some ⟨g, 0, none⟩) := hv11
    simp only [putAll, Act.put, Nat.zero_add, Nat.reduceAdd, v11, v0, v1, v2, v3, v4, v5, v6, v7, v8, v9, v10, List.setIfInBounds_toArray, List.set_cons_zero, List.set_cons_succ]
    clear v0 v1 v2 v3 v4 v5 v6 v7 v8 v9 v10
    have B7 := Lib.hid hg3
    have UW : Hid (Upd [] w W) := U2.out.trans hu
    have BR := Lib.hid (B2.out.upd hu (by simp))
    have hgw : w.heap.size < g := by omega
    have lg : g < W.heap.size := hg3.lt
    have lw : w.heap.size < W.heap.size := BR.out.lt
    clear hu hv11 v11 hg3
    go_wp2_with fail
    refine (HN8.out _).mono ?_
    rintro e w2 ⟨rfl, rfl⟩
    go_wp2_with fail
    refine (HN10.out _).mono ?_
    rintro e w2 ⟨rfl, rfl⟩
    have f0 := B7.out.frozen 0
    have f1 := B7.out.frozen 1
    have f2 := B7.out.frozen 2
    have f3 := B7.out.frozen 3
    have f4 := B7.out.frozen 4
    have f5 := B7.out.frozen 5
    have c0 := B7.out.cell 0
    have c1 := B7.out.cell 1
    have c2 := B7.out.cell 2
    have c3 := B7.out.cell 3
    have c4 := B7.out.cell 4
    have c5 := B7.out.cell 5
    simp at c0 c1 c2 c3 c4 c5
    have k0 := BR.out.frozen 0
    have k1 := BR.out.frozen 1
    have k2 := BR.out.frozen 2
    have k3 := BR.out.frozen 3
    have k4 := BR.out.frozen 4
    have k5 := BR.out.frozen 5
    have d0 := BR.out.cell 0
    have d1 := BR.out.cell 1
    have d2 := BR.out.cell 2
    have d3 := BR.out.cell 3
    have d4 := BR.out.cell 4
    have d5 := BR.out.cell 5
    simp at d0 d1 d2 d3 d4 d5
    go_wp2_with fail
    clear f0 f1 f2 f3 f4 f5 c0 c1 c2 c3 c4 c5 k0 k1 k2 k3 k4 k5 d0 d1 d2 d3 d4 d5
    have RR := ((((((((BR.out.far (p := ⟨g, 3, none⟩) (.int .i64 k8) (by simp; omega)).far (p := ⟨g, 4, none⟩) (.int .i64 k10) (by simp; omega)).set_ 0 (.int .i64 k4)).set_ 1 (.int .i64 k6)).set_ 2 (.bool true)).set_ 3 (.int .i64 k8)).set_ 4 (.int .i64 k10)).set_ 5 (.string d))
    have c0 := RR.cell 0
    have c1 := RR.cell 1
    have c2 := RR.cell 2
    have c3 := RR.cell 3
    have c4 := RR.cell 4
    have c5 := RR.cell 5
    simp at c0 c1 c2 c3 c4 c5
    have UU := (((((((UW.out.setCell (p := ⟨g, 3, none⟩) (.int .i64 k8) (.inr (by simp; omega))).setCell (p := ⟨g, 4, none⟩) (.int .i64 k10) (.inr (by simp; omega))).setCell (p := ⟨w.heap.size, 0, none⟩) (.int .i64 k4) (.inr (Nat.le_refl _))).setCell (p := ⟨w.heap.size, 1, none⟩) (.int .i64 k6) (.inr (Nat.le_refl _))).setCell (p := ⟨w.heap.size, 2, none⟩) (.bool true) (.inr (Nat.le_refl _))).setCell (p := ⟨w.heap.size, 3, none⟩) (.int .i64 k8) (.inr (Nat.le_refl _))).setCell (p := ⟨w.heap.size, 4, none⟩) (.int .i64 k10) (.inr (Nat.le_refl _))).setCell (p := ⟨w.heap.size, 5, none⟩) (.string d) (.inr (Nat.le_refl _))
    exact bodyPost_ret (v := .tuple #[.agg #[.int .i64 k4, .int .i64 k6, .bool true, .int .i64 k8, .int .i64 k10, .string d], .int .i64 0]) (by simp [results, Try.results16, go_sem, c0, c1, c2, c3, c4, c5]) rfl ⟨rfl, UU⟩
end Go.Proofs.Ytcplhlokbnaabaa
