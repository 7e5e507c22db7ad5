/- The walks of msg.Put at nothing, of alive. -/
import Derived.Test.YtcplhlokbnaabaaMsgC
import Derived.Test.YtcplhlokbnaabaaMsgD
import Derived.Test.YtcplhlokbnaabaaMsgF
namespace Go.Proofs.Ytcplhlokbnaabaa
open Go.RowKit
set_option maxRecDepth 20000
set_option linter.unusedSimpArgs false
set_option linter.unusedVariables false

theorem raw0 : rawOf 0 0 0 0 ⟨#[]⟩ = head0 := by decide +kernel
set_option maxHeartbeats 1000000 in
theorem msgPut0 (hd : ByteArray) (hhd : hd = head0) (w : World) :
    Calls Try.prog 18 #[.agg #[.int .i64 0, .int .i64 0, .int .i64 0, .int .i64 0, .slice none 0 0], .string ⟨#[]⟩] w fun e w' => e = .returned (.tuple #[.string hd, .int .i64 0]) ∧ Upd [] w w' := by
  have HHD : Hid (rawOf 0 0 0 0 ⟨#[]⟩ = hd) := by show _ = _; rw [hhd, raw0]
  clear hhd
  have hw : ([0, 0, 0, 0] : List Int).any overWord = false := by decide
  have U0 := Lib.hid ((Upd.refl [] w).alloc (.cells #[.int .i64 0, .int .i64 0, .int .i64 0, .int .i64 0, .slice none 0 0] 33))
  have HC : Hid (∀ W, Upd [] (w.alloc (.cells #[.int .i64 0, .int .i64 0, .int .i64 0, .int .i64 0, .slice none 0 0] 33)) W → W.cell? ⟨w.heap.size, 0, none⟩ = some (.int .i64 0) ∧ W.cell? ⟨w.heap.size, 1, none⟩ = some (.int .i64 0) ∧ W.cell? ⟨w.heap.size, 2, none⟩ = some (.int .i64 0) ∧ W.cell? ⟨w.heap.size, 3, none⟩ = some (.int .i64 0) ∧ W.cell? ⟨w.heap.size, 4, none⟩ = some (.slice none 0 0)) := by
    intro W hu
    have h := (Blk.new w 33 #[.int .i64 0, .int .i64 0, .int .i64 0, .int .i64 0, .slice none 0 0]).upd hu (by simp)
    exact ⟨h.cell 0, h.cell 1, h.cell 2, h.cell 3, h.cell 4⟩
  have HI : Hid (∀ W : World, IntsAt (W.alloc (.cells #[.int .i64 0, .int .i64 0, .int .i64 0, .int .i64 0] 3)) (.slice (some ⟨W.heap.size, 0, none⟩) 4 4) [0, 0, 0, 0]) := fun W => IntsAt.of_blk (l := [0, 0, 0, 0]) (Blk.new _ _ _) (by simp [maxLen])
  have HW := Lib.hid hw
  clear hw
  go_enter Try.func18, Try.ntmps18
  go_wp2_with fail
  refine (words_any [0, 0, 0, 0] _ _ (by have h := HI.out (w.alloc (.cells #[.int .i64 0, .int .i64 0, .int .i64 0, .int .i64 0, .slice none 0 0] 33)); simpa using h)).mono ?_
  rintro e w1 ⟨rfl, hu1⟩
  have HU1 : Hid (Upd [] (w.alloc (.cells #[.int .i64 0, .int .i64 0, .int .i64 0, .int .i64 0, .slice none 0 0] 33)) w1) := ((Upd.refl _ _).alloc _).trans hu1
  clear hu1
  rw [HW.out]
  obtain ⟨c0, c1, c2, c3, c4⟩ := HC.out _ HU1.out
  simp only [Bool.not_false]
  go_wp2_with fail
  refine (avpPut0 0 none ⟨#[]⟩ _).mono ?_
  rintro e w2 ⟨rfl, hu2⟩
  have HU2 := Lib.hid (HU1.out.trans hu2)
  clear hu2 c0 c1 c2 c3 c4
  obtain ⟨c0, c1, c2, c3, c4⟩ := HC.out _ HU2.out
  go_wp2_with fail
  refine (raw_any 0 0 0 0 (.slice none 0 0) ⟨#[]⟩ (by decide) rfl _).mono ?_
  rintro e w3 ⟨rfl, hu3⟩
  rw [HHD.out]
  have HU3 := Lib.hid (HU2.out.trans hu3)
  clear hu3
  go_wp2_with fail
  go_ret2
  exact ⟨rfl, U0.out.trans HU3.out⟩

theorem make_avs {w : World} {u : Value} {own : List Nat} {a : Av} {l : List Av} (h : Own w 27 5 u (1 + l.length) (avCells (a :: l)) own) : AvsAt w u (a :: l) :=
  AvsAt.of_own (e := 27) (own := own) (by rw [List.length_cons, Nat.add_comm]; exact h)
set_option maxHeartbeats 1000000 in
theorem alive_any (w : World) :
    Calls Try.prog 7 #[] w fun e w' => e = .returned (.bool true) ∧ Upd [] w w' := by
  have k1 : checkOf [numAv 0 11 2] = 40 := by decide +kernel
  have k2 : checkOf [numAv 0 11 2, numAv 14 5 2] = 0 := by decide +kernel
  have k3 : checkOf [numAv 0 5 2] = 40 := by decide +kernel
  have z1 : ∀ a ∈ [numAv 0 11 2], a.val.size ≤ maxLen := by simp [numAv, be_size, maxLen]
  have z2 : ∀ a ∈ [numAv 0 11 2, numAv 14 5 2], a.val.size ≤ maxLen := by simp [numAv, be_size, maxLen]
  have z3 : ∀ a ∈ [numAv 0 5 2], a.val.size ≤ maxLen := by simp [numAv, be_size, maxLen]
  have K := Lib.hid (And.intro k1 (And.intro k2 k3))
  have Z := Lib.hid (And.intro z1 (And.intro z2 z3))
  clear k1 k2 k3 z1 z2 z3
  have hnum := fun W => num_ok 14 5 2 (by omega) W
  simp only [Av.agg, numAv] at hnum
  obtain ⟨x, hx⟩ : ∃ x, be 2 5 = x := ⟨_, rfl⟩
  rw [hx] at hnum
  have HNUM := Lib.hid hnum
  have HX : Hid (numAv 14 5 2 = ⟨true, false, 0, 14, x⟩) := by show _ = _; rw [numAv, hx]
  clear hx hnum
  have HI : Hid (∀ W : World, AvsAt (W.alloc (.cells #[.bool true, .bool false, .int .i64 0, .int .i64 14, .string x] 27)) (.slice (some ⟨W.heap.size, 0, none⟩) 1 1) [numAv 14 5 2]) := by
    intro W
    rw [HX.out]
    exact AvsAt.of_blk (l := [⟨true, false, 0, 14, x⟩]) (Blk.new _ _ _) (by simp [maxLen])
  obtain ⟨hd, hhd⟩ : ∃ h, h = head0 := ⟨_, rfl⟩
  have hput := msgPut0 hd hhd
  have HP := Lib.hid hput
  have HHD := Lib.hid hhd
  clear hput hhd
  go_enter Try.func7, Try.ntmps7
  go_wp2_with fail
  refine (HP.out _).mono ?_
  rintro e w1 ⟨rfl, hu1⟩
  have HU1 := Lib.hid hu1
  clear hu1
  go_wp2_with fail
  refine (make_any 11 [] _ _ (AvsAt.nil _) (by simp)).mono ?_
  rintro e w2 ⟨u1, own1, rfl, ho1, -, hu2⟩
  have HU2 := Lib.hid (HU1.out.trans hu2)
  have HO1 := Lib.hid ho1
  obtain ⟨ao1, cap1, rfl, -, -⟩ := ho1.shape
  clear hu2 ho1
  go_wp2_with fail
  refine (check_any 0 0 0 0 _ _ _ (make_avs HO1.out) Z.out.1).mono ?_
  rintro e w3 ⟨rfl, hu3⟩
  have HU3 := Lib.hid (HU2.out.trans hu3)
  clear hu3
  rw [K.out.1]
  go_wp2_with fail
  refine (HNUM.out _).mono ?_
  rintro e w4 ⟨rfl, hu4⟩
  have HU4 := Lib.hid (HU3.out.trans hu4)
  clear hu4
  go_wp2_with fail
  refine (make_any 11 [numAv 14 5 2] _ _ (HI.out _) (by simp)).mono ?_
  rintro e w5 ⟨u2, own2, rfl, ho2, -, hu5⟩
  have HU5 := Lib.hid ((HU4.out.alloc _).trans hu5)
  have HO2 := Lib.hid ho2
  obtain ⟨ao2, cap2, rfl, -, -⟩ := ho2.shape
  clear hu5 ho2
  go_wp2_with fail
  refine (check_any 0 0 0 0 _ _ _ (make_avs HO2.out) Z.out.2.1).mono ?_
  rintro e w6 ⟨rfl, hu6⟩
  have HU6 := Lib.hid (HU5.out.trans hu6)
  clear hu6
  rw [K.out.2.1]
  have hq : hd.toList = [200, 2, 0, 12, 0, 0, 0, 0, 0, 0, 0, 0] := by rw [HHD.out]; decide +kernel
  go_wp2_with fail
  refine (by rw [HHD.out]; exact isCtl_head0 _ : Calls Try.prog 17 #[.string hd] _ fun e w' => e = .returned (.bool true) ∧ _ = w').mono ?_
  rintro e w7 ⟨rfl, rfl⟩
  clear hq
  go_wp2_with fail
  refine (make_any 5 [] _ _ (AvsAt.nil _) (by simp)).mono ?_
  rintro e w8 ⟨u3, own3, rfl, ho3, -, hu8⟩
  have HU8 := Lib.hid (HU6.out.trans hu8)
  have HO3 := Lib.hid ho3
  obtain ⟨ao3, cap3, rfl, -, -⟩ := ho3.shape
  clear hu8 ho3
  go_wp2_with fail
  refine (check_any 0 0 0 0 _ _ _ (make_avs HO3.out) Z.out.2.2).mono ?_
  rintro e w9 ⟨rfl, hu9⟩
  have HU9 := Lib.hid (HU8.out.trans hu9)
  clear hu9
  rw [K.out.2.2]
  go_wp2_with fail
  go_ret
  exact ⟨rfl, HU9.out⟩
end Go.Proofs.Ytcplhlokbnaabaa
