/- Plain: two ends that both opened. No program in sight. -/
import Derived.Test.YtolfjfkkbhbbbaaGreatQTunHA
namespace Go.Proofs.YtolfjfkkbhbbbaaGreat
open Go.RowKit
set_option linter.unusedSimpArgs false
set_option linter.unusedVariables false

theorem take2 {O R : Tn} (hO : Start O) (hR : Start R) : (O2 O).take (sayM O.cid ⟨0, 1, bodyC 0 (L2 O R)⟩) = ((H3 O R).replied1 (L2 O R), []) := by
  obtain ⟨s1, s2, s3⟩ := L2_parts (O := O) hR
  rw [take_clear ⟨by have := hO.cid; omega, by omega, by omega, by omega⟩ s1 (O2 O) (by show (1 : Int) ≠ 4; decide), takeM_mine (O2 O) _ _ rfl (.inl (by rw [s2]; decide)),
    hear1 (O2 O) (x := 1) (y := 0) (r := 1) (c := 0) (o := false) rfl (by omega) (by omega) (by omega) s1, handle2 _ _ s2 s3 rfl]
  dsimp only
  have hw := heard_eq ({ O2 O with quiet := 0, way := chn 1 ((0 + 1) % 65536) [] [] (1 + 1) 0 true } : Tn) (x := 1) (y := 1) (r := 2) (c := 0) (fl := []) (o := true) rfl (by omega) 2 R.name R.cid ((H1 O R).respond 2 ++ askL (H1 O R)) hR.cid
  rw [Tn.replied, show L2 O R = lstC 2 R.name R.cid ((H1 O R).respond 2 ++ askL (H1 O R)) from rfl, hw, if_neg (by simp)]
  rfl
theorem out2 {O R : Tn} (hR : Start R) : (R1 O R).out = (R2 O R, [sayM O.cid ⟨0, 1, bodyC 0 (L2 O R)⟩]) := by
  rw [out_one (R1 O R) (x := 0) (y := 1) (r := 1) (c := 0) (o := true) rfl (by omega) hR.told]
  rfl
theorem out3 (O R : Tn) : (O3 O R).out = (O4 O R, [sayM R.cid ⟨1, 1, bodyC 0 (conL ({ H3 O R with state := 3 } : Tn))⟩]) := by
  rw [out_one (O3 O R) (x := 1) (y := 1) (r := 2) (c := 0) (o := true) rfl (by omega) rfl]
  rfl
theorem take3 {O R : Tn} (hR : Start R) : (R2 O R).take (sayM R.cid ⟨1, 1, bodyC 0 (conL ({ H3 O R with state := 3 } : Tn))⟩) = ((R3 O R).connected (conL ({ H3 O R with state := 3 } : Tn)), []) := by
  obtain ⟨s1, s2, s3⟩ := con_parts ({ H3 O R with state := 3 } : Tn)
  rw [take_clear ⟨by have := hR.cid; omega, by omega, by omega, by omega⟩ s1 (R2 O R) (by show (2 : Int) ≠ 4; decide), takeM_mine (R2 O R) _ _ rfl (.inl (by rw [s2]; decide)),
    hear1 (R2 O R) (x := 1) (y := 1) (r := 1) (c := 0) (o := false) rfl (by omega) (by omega) (by omega) s1, handle3 _ _ s2 s3 rfl]
  rfl
theorem out4 (O R : Tn) : ({ R3 O R with state := 3 } : Tn).out = (R5 O R, [sayM O.cid ⟨1, 2, ⟨#[]⟩⟩]) := by
  rw [out_owed _ (x := 1) (y := 2) (r := 2) (c := 0) (fl := []) rfl rfl]
  rfl
theorem take4 {O R : Tn} (hO : Start O) : (O4 O R).take (sayM O.cid ⟨1, 2, ⟨#[]⟩⟩) = (O5 O R, []) := by
  rw [take_ack ⟨by have := hO.cid; omega, by omega, by omega, by omega⟩ (O4 O R) (by show (3 : Int) ≠ 4; decide), takeM_mine (O4 O R) _ _ rfl (.inl (by show kindOf [] ≠ 1; decide)),
    hear_ack1 (O4 O R) (x := 2) (y := 1) (r := 2) (c := 0) (o := false) rfl (by omega) 1 (by omega) (by omega)]
  rfl
theorem outO5 (O R : Tn) : (O5 O R).out = (O5 O R, []) := by
  rw [out_none (O5 O R) (x := 2) (y := 1) (r := 3) (c := 0) (fl := []) rfl rfl]
  rfl
theorem outR5 (O R : Tn) : (R5 O R).out = (R5 O R, []) := by
  rw [out_none (R5 O R) (x := 1) (y := 2) (r := 2) (c := 0) (fl := []) rfl rfl]
  rfl
theorem feed_nil (T : Tn) : feed T [] = T := rfl
/-- The opener stands first. -/
theorem both_first {O R : Tn} (hO : Start O) (hR : Start R) (hk : Know O R) : meetN 4 (O2 O, R1 O R) = (O5 O R, R5 O R) := by
  have e0 : (O2 O).out = (O2 O, []) := by
    rw [out_none (O2 O) (x := 1) (y := 0) (r := 1) (c := 0) (fl := [bodyC 0 (L1 O)]) rfl rfl]
    rfl
  have m1 : meet1 (O2 O, R1 O R) = (O3 O R, R2 O R) := by
    unfold meet1
    dsimp only
    rw [e0]
    dsimp only
    rw [feed_nil, out2 hR]
    dsimp only
    rw [feed_one, take2 hO hR, replied_good hk.1 hk.2.1]
  show meet1 (meet1 (meet1 (meet1 (O2 O, R1 O R)))) = _
  rw [m1, round2_good hO hR hk.1 hk.2.2, still_round, still_round]
/-- The opener stands second. -/
theorem both_second {O R : Tn} (hO : Start O) (hR : Start R) (hk : Know O R) : meetN 4 (R1 O R, O2 O) = (R5 O R, O5 O R) := by
  have m1 : meet1 (R1 O R, O2 O) = ({ R3 O R with state := 3 }, O4 O R) := by
    unfold meet1
    dsimp only
    rw [out2 hR]
    dsimp only
    rw [feed_one, take2 hO hR, replied_good hk.1 hk.2.1, out3]
    dsimp only
    rw [feed_one, take3 hR, con_good hk.1 hk.2.2]
  have m2 : meet1 (({ R3 O R with state := 3 } : Tn), O4 O R) = (R5 O R, O5 O R) := by
    unfold meet1
    dsimp only
    rw [out4]
    dsimp only
    rw [feed_one, take4 hO, outO5]
    rfl
  have m3 : meet1 (R5 O R, O5 O R) = (R5 O R, O5 O R) := by
    unfold meet1
    dsimp only
    rw [outR5]
    dsimp only
    rw [feed_nil, outO5]
    rfl
  show meet1 (meet1 (meet1 (meet1 (R1 O R, O2 O)))) = _
  rw [m1, m2, m3, m3]

/-! ### the ties -/
/-- An end that yields, as it stands then. -/
def yielded (A : Tn) : Tn := { (O2 A).anew with state := 0 }
theorem yielded_start {A : Tn} (h : Start A) (hq : A.queue = 10) (hr : A.retry = 3) (hw : A.wait = 3) : Start (yielded A) := by
  have e1 : (yielded A).way = C.new A.window A.queue A.retry A.wait 0 := by simp only [yielded, Tn.anew, O2, openC, Tn.open1]
  have e2 : (yielded A).told = false := by simp only [yielded, Tn.anew, O2, openC, Tn.open1]
  have e3 : (yielded A).window = A.window := by simp only [yielded, Tn.anew, O2, openC, Tn.open1]
  have e4 : (yielded A).name = A.name := by simp only [yielded, Tn.anew, O2, openC, Tn.open1]
  have e5 : (yielded A).cid = A.cid := by simp only [yielded, Tn.anew, O2, openC, Tn.open1]
  have e6 : (yielded A).state = 0 := by simp only [yielded, Tn.anew, O2, openC, Tn.open1]
  have e7 : C.new 4 10 3 3 0 = chn 0 0 [] [] 1 0 false := rfl
  generalize yielded A = Y at *
  exact ⟨by rw [e1, h.win, hq, hr, hw, e7], e2, by rw [e3]; exact h.win, by rw [e4]; exact h.name, by rw [e5]; exact h.cid, e6⟩
theorem L1_tie (O : Tn) : findAv 5 (L1 O) = (O.tape.str 8, true) := by
  rw [L1, lstC_find _ _ _ _ 5 (by decide), find_hit]
theorem tie_take {A O : Tn} (hA : Start A) (hO : Start O) (hq : A.queue = 10) (hr : A.retry = 3) (hw : A.wait = 3) :
    (O2 A).take (sayM 0 ⟨0, 0, bodyC 0 (L1 O)⟩) =
      if tieOf (A.tape.str 8) < tieOf (O.tape.str 8) then (O2 A, []) else if tieOf (O.tape.str 8) = tieOf (A.tape.str 8) then ({ O2 A with state := 4, told := true }, []) else ((H1 O (yielded A)).opened1, []) := by
  obtain ⟨c1, c2, c3⟩ := L1_parts hO
  have hy : (O2 A).yields ⟨0, 0, 0, 0, L1 O⟩ = if tieOf (A.tape.str 8) < tieOf (O.tape.str 8) then (O2 A, false) else if tieOf (O.tape.str 8) = tieOf (A.tape.str 8) then ({ O2 A with state := 4, told := true }, false) else (yielded A, true) := by
    rw [Tn.yields]
    dsimp only
    rw [L1_tie, show (O2 A).tie = tieOf (A.tape.str 8) from rfl]
    dsimp only
    by_cases h : tieOf (A.tape.str 8) < tieOf (O.tape.str 8)
    · rw [if_pos (.inr (.inr h)), if_pos h]
    · rw [if_neg (by rintro (h1 | h1 | h1); exact h1 rfl; exact h1 (Tp.str_size _ _); exact h h1), if_neg h]
      rfl
  have ht : (O2 A).take (sayM 0 ⟨0, 0, bodyC 0 (L1 O)⟩) = if ((O2 A).yields ⟨0, 0, 0, 0, L1 O⟩).2 = false then (((O2 A).yields ⟨0, 0, 0, 0, L1 O⟩).1, []) else ((O2 A).yields ⟨0, 0, 0, 0, L1 O⟩).1.hear ⟨0, 0, 0, 0, L1 O⟩ (bodyC 0 (L1 O)) := by
    rw [take_clear ⟨by omega, by omega, by omega, by omega⟩ c1 (O2 A) (by show (1 : Int) ≠ 4; decide), Tn.takeM, if_neg (by rintro ⟨-, h | h | h⟩; exact h rfl; exact h c2; exact h.2 rfl), if_pos ⟨c2, rfl⟩]
  rw [ht, hy]
  split
  · rfl
  split
  · rfl
  · have hR := yielded_start hA hq hr hw
    rw [if_neg (by simp)]
    have h1 := take1 hO hR
    rw [take_clear ⟨by omega, by omega, by omega, by omega⟩ c1 (yielded A) (by rw [hR.state]; decide), takeM_zero (yielded A) _ _ rfl c2 hR.state] at h1
    exact h1
theorem tieOf_inj {a b : ByteArray} (ha : a.size = 8) (hb : b.size = 8) (h : tieOf a = tieOf b) : a = b := by
  have h1 := num_bd a 0 8
  have h2 := num_bd b 0 8
  have h3 : num a 0 8 = num b 0 8 := by
    unfold tieOf at h
    rw [ha, hb] at h
    omega
  have hby : ∀ n, n ≤ 8 → num a 0 n = num b 0 n := by
    intro n hn
    have : ∀ d, d ≤ 8 → num a 0 (8 - d) = num b 0 (8 - d) := by
      intro d
      induction d with
      | zero => intro _; exact h3
      | succ d ih =>
        intro hd
        have e := ih (by omega)
        rw [show 8 - d = (8 - (d + 1)) + 1 by omega] at e
        simp only [num] at e
        have b1 := byte_bd a (0 + (8 - (d + 1)))
        have b2 := byte_bd b (0 + (8 - (d + 1)))
        omega
    have := this (8 - n) (by omega)
    rwa [show 8 - (8 - n) = n by omega] at this
  have hbt : ∀ j, j < 8 → byte a j = byte b j := by
    intro j hj
    have e1 := hby (j + 1) (by omega)
    have e2 := hby j (by omega)
    simp only [num] at e1
    rw [e2] at e1
    rw [Nat.zero_add] at e1
    omega
  refine same_sb a b (by omega) (fun j hj => ?_)
  have := hbt j (by omega)
  rw [sb_byte, sb_byte] at this
  exact Int.ofNat.inj this
theorem dead_meetN {p : Tn × Tn} (h : Dead2 p) : ∀ n, Dead2 (meetN n p)
  | 0 => h
  | n + 1 => dead_meet (dead_meetN h n)
end Go.Proofs.YtolfjfkkbhbbbaaGreat
