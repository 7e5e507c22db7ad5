/- The walk of MsgWhole (under way). -/
import Derived.Test.YtcplhlokbnaabaaWholeP
import Derived.OwnWalk
namespace Go.Proofs.Ytcplhlokbnaabaa
open Go.RowKit
set_option maxRecDepth 100000
set_option linter.unusedSimpArgs false
set_option linter.unusedVariables false

set_option maxHeartbeats 400000 in
theorem needs_any (kind : Int) (w : World) :
    Calls Try.prog 8 #[.int .i64 kind] w fun e w' => ∃ v, e = .returned v ∧ IntsAt w' v ((needsOf kind).getD []) ∧ Upd [] w w' := by
  have hk := fun W => known_any kind W
  obtain ⟨ns, hns⟩ : ∃ ns, ns = (needsOf kind).getD [] := ⟨_, rfl⟩
  obtain ⟨b, hb⟩ : ∃ b, b = (needsOf kind).isSome := ⟨_, rfl⟩
  rw [← hns]
  rw [← hns, ← hb] at hk
  have HK := Lib.hid hk
  clear hns hb hk
  go_enter Try.func8, Try.ntmps8
  go_wp2_with fail
  refine (HK.out _).mono ?_
  rintro e w2 ⟨vn, rfl, hin, hu2⟩
  have HIN := Lib.hid hin
  obtain ⟨bo, cbp, rfl, i1, i2, -⟩ := hin
  go_wp2_with fail
  go_ret
  exact ⟨_, rfl, HIN.out, hu2⟩

set_option maxHeartbeats 1000000 in
/-- Out of range. -/
theorem msgWhole_out (kind drop : Int) (hk : kind < 0 ∨ 65535 < kind) (w : World) :
    Calls Try.prog 3 #[.int .i64 kind, .int .i64 drop] w fun e w' => e = .returned (.bool true) ∧ Upd [] w w' := by
  by_cases t1 : kind < 0
  · clear hk
    go_enter Try.func3, Try.ntmps3
    go_wp2_with fail
    refine (alive_any _).mono ?_
    rintro e w2 ⟨rfl, hu2⟩
    go_wp2_with fail
    go_ret
    exact ⟨rfl, hu2⟩
  · have t2 : 65535 < kind := by omega
    clear hk
    go_enter Try.func3, Try.ntmps3
    go_wp2_with fail
    refine (alive_any _).mono ?_
    rintro e w2 ⟨rfl, hu2⟩
    go_wp2_with fail
    go_ret
    exact ⟨rfl, hu2⟩

set_option maxHeartbeats 2000000 in
/-- A kind that is not known. -/
theorem msgWhole_none (kind drop : Int) (hk : 0 ≤ kind ∧ kind ≤ 65535) (hn : needsOf kind = none) (w : World) :
    Calls Try.prog 3 #[.int .i64 kind, .int .i64 drop] w fun e w' => e = .returned (.bool true) ∧ Upd [] w w' := by
  have CU := Lib.hid (check_unknown kind hk hn)
  have Z : Hid (∀ a ∈ [numAv 0 kind 2], a.val.size ≤ maxLen) := by intro a ha; simp at ha; subst ha; simp [numAv, be_size, maxLen]
  have hkn := needsOf_known kind
  rw [hn] at hkn
  have hkn : ¬ (1 ≤ kind ∧ kind ≤ 16 ∧ kind ≠ 5 ∧ kind ≠ 13) := by simpa using hkn
  have HKN := Lib.hid hkn
  have HNS : Hid (∀ W : World, Calls Try.prog 8 #[.int .i64 kind] W fun e w' => ∃ v, e = .returned v ∧ IntsAt w' v [] ∧ Upd [] W w') := by
    intro W
    have := needs_any kind W
    rwa [hn] at this
  obtain ⟨h0, h1⟩ := hk
  clear hn
  by_cases k1 : kind = 5
  · subst k1
    clear hkn h0 h1
    go_enter Try.func3, Try.ntmps3
    go_wp2_with fail
    refine (HNS.out _).mono ?_
    rintro e w1 ⟨vn, rfl, hin, hu1⟩
    obtain ⟨bo, cbp, rfl, i1, i2, -⟩ := hin
    have HU1 := Lib.hid hu1
    simp only [List.length_nil] at i1 ⊢
    simp only [maxLen] at i2
    clear hu1
    go_wp2_with fail
    go_loopg [6, 7] 0 (fun m s6 s7 wr => s6 = .slice none 0 0 ∧ s7 = .int .i64 0 ∧ wr = w1)
    case atStart => exact ⟨rfl, rfl, rfl⟩
    case round =>
      obtain ⟨rfl, rfl, rfl⟩ := hrel
      go_wp2_with fail
      refine (make_any _ [] _ _ (AvsAt.nil _) (by simp)).mono ?_
      rintro e w2 ⟨u1, own1, rfl, ho1, -, hu2⟩
      have HU2 := Lib.hid (HU1.out.trans hu2)
      have HO1 := Lib.hid ho1
      obtain ⟨ao1, cap1, rfl, -, -⟩ := ho1.shape
      clear hu2 ho1
      go_wp2_with fail
      refine (check_any 0 0 0 0 _ _ _ (make_avs HO1.out) Z.out).mono ?_
      rintro e w3 ⟨rfl, hu3⟩
      have HU3 := Lib.hid (HU2.out.trans hu3)
      clear hu3
      rw [CU.out]
      go_wp2_with fail
      refine (alive_any _).mono ?_
      rintro e w4 ⟨rfl, hu4⟩
      have HU4 := Lib.hid (HU3.out.trans hu4)
      clear hu4
      go_wp2_with fail
      go_ret
      exact ⟨rfl, HU4.out⟩
  by_cases k2 : kind = 13
  · subst k2
    clear hkn h0 h1 k1
    go_enter Try.func3, Try.ntmps3
    go_wp2_with fail
    refine (HNS.out _).mono ?_
    rintro e w1 ⟨vn, rfl, hin, hu1⟩
    obtain ⟨bo, cbp, rfl, i1, i2, -⟩ := hin
    have HU1 := Lib.hid hu1
    simp only [List.length_nil] at i1 ⊢
    simp only [maxLen] at i2
    clear hu1
    go_wp2_with fail
    go_loopg [6, 7] 0 (fun m s6 s7 wr => s6 = .slice none 0 0 ∧ s7 = .int .i64 0 ∧ wr = w1)
    case atStart => exact ⟨rfl, rfl, rfl⟩
    case round =>
      obtain ⟨rfl, rfl, rfl⟩ := hrel
      go_wp2_with fail
      refine (make_any _ [] _ _ (AvsAt.nil _) (by simp)).mono ?_
      rintro e w2 ⟨u1, own1, rfl, ho1, -, hu2⟩
      have HU2 := Lib.hid (HU1.out.trans hu2)
      have HO1 := Lib.hid ho1
      obtain ⟨ao1, cap1, rfl, -, -⟩ := ho1.shape
      clear hu2 ho1
      go_wp2_with fail
      refine (check_any 0 0 0 0 _ _ _ (make_avs HO1.out) Z.out).mono ?_
      rintro e w3 ⟨rfl, hu3⟩
      have HU3 := Lib.hid (HU2.out.trans hu3)
      clear hu3
      rw [CU.out]
      go_wp2_with fail
      refine (alive_any _).mono ?_
      rintro e w4 ⟨rfl, hu4⟩
      have HU4 := Lib.hid (HU3.out.trans hu4)
      clear hu4
      go_wp2_with fail
      go_ret
      exact ⟨rfl, HU4.out⟩
  by_cases k3 : kind = 0
  · subst k3
    clear hkn h0 h1 k1 k2
    go_enter Try.func3, Try.ntmps3
    go_wp2_with fail
    refine (HNS.out _).mono ?_
    rintro e w1 ⟨vn, rfl, hin, hu1⟩
    obtain ⟨bo, cbp, rfl, i1, i2, -⟩ := hin
    have HU1 := Lib.hid hu1
    simp only [List.length_nil] at i1 ⊢
    simp only [maxLen] at i2
    clear hu1
    go_wp2_with fail
    go_loopg [6, 7] 0 (fun m s6 s7 wr => s6 = .slice none 0 0 ∧ s7 = .int .i64 0 ∧ wr = w1)
    case atStart => exact ⟨rfl, rfl, rfl⟩
    case round =>
      obtain ⟨rfl, rfl, rfl⟩ := hrel
      go_wp2_with fail
      refine (make_any _ [] _ _ (AvsAt.nil _) (by simp)).mono ?_
      rintro e w2 ⟨u1, own1, rfl, ho1, -, hu2⟩
      have HU2 := Lib.hid (HU1.out.trans hu2)
      have HO1 := Lib.hid ho1
      obtain ⟨ao1, cap1, rfl, -, -⟩ := ho1.shape
      clear hu2 ho1
      go_wp2_with fail
      refine (check_any 0 0 0 0 _ _ _ (make_avs HO1.out) Z.out).mono ?_
      rintro e w3 ⟨rfl, hu3⟩
      have HU3 := Lib.hid (HU2.out.trans hu3)
      clear hu3
      rw [CU.out]
      go_wp2_with fail
      refine (alive_any _).mono ?_
      rintro e w4 ⟨rfl, hu4⟩
      have HU4 := Lib.hid (HU3.out.trans hu4)
      clear hu4
      go_wp2_with fail
      go_ret
      exact ⟨rfl, HU4.out⟩
  have k4 : 16 < kind := by omega
  clear hkn k1 k2 k3
  go_enter Try.func3, Try.ntmps3
  go_wp2_with fail
  refine (HNS.out _).mono ?_
  rintro e w1 ⟨vn, rfl, hin, hu1⟩
  obtain ⟨bo, cbp, rfl, i1, i2, -⟩ := hin
  have HU1 := Lib.hid hu1
  simp only [List.length_nil] at i1 ⊢
  simp only [maxLen] at i2
  clear hu1
  go_wp2_with fail
  go_loopg [6, 7] 0 (fun m s6 s7 wr => s6 = .slice none 0 0 ∧ s7 = .int .i64 0 ∧ wr = w1)
  case atStart => exact ⟨rfl, rfl, rfl⟩
  case round =>
    obtain ⟨rfl, rfl, rfl⟩ := hrel
    go_wp2_with fail
    refine (make_any _ [] _ _ (AvsAt.nil _) (by simp)).mono ?_
    rintro e w2 ⟨u1, own1, rfl, ho1, -, hu2⟩
    have HU2 := Lib.hid (HU1.out.trans hu2)
    have HO1 := Lib.hid ho1
    obtain ⟨ao1, cap1, rfl, -, -⟩ := ho1.shape
    clear hu2 ho1
    go_wp2_with fail
    refine (check_any 0 0 0 0 _ _ _ (make_avs HO1.out) Z.out).mono ?_
    rintro e w3 ⟨rfl, hu3⟩
    have HU3 := Lib.hid (HU2.out.trans hu3)
    clear hu3
    rw [CU.out]
    go_wp2_with fail
    refine (alive_any _).mono ?_
    rintro e w4 ⟨rfl, hu4⟩
    have HU4 := Lib.hid (HU3.out.trans hu4)
    clear hu4
    go_wp2_with fail
    go_ret
    exact ⟨rfl, HU4.out⟩
end Go.Proofs.Ytcplhlokbnaabaa
