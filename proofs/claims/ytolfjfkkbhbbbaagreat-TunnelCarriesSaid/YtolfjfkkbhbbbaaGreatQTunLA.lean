/- The walk of chapter 21's alive. -/
import Derived.Test.YtolfjfkkbhbbbaaGreatQTunHA
namespace Go.Proofs.YtolfjfkkbhbbbaaGreat
open Go.RowKit
set_option linter.unusedSimpArgs false
set_option linter.unusedVariables false
set_option maxRecDepth 100000

theorem startA (s : ByteArray) : Start (endA s) := ⟨rfl, rfl, rfl, by show ByteArray.size ⟨#[97]⟩ ≤ 40; decide, ⟨by show (1 : Int) ≤ 5; decide, by show (5 : Int) < _; decide⟩, rfl⟩
theorem startB (s : ByteArray) : Start (endB s) := ⟨rfl, rfl, rfl, by show ByteArray.size ⟨#[98]⟩ ≤ 40; decide, ⟨by show (1 : Int) ≤ 9; decide, by show (9 : Int) < _; decide⟩, rfl⟩
section
variable {w W : World} {pa pb : Nat} {a b : Tn}
/-- The first end opens. -/
theorem Two.openA (h : Two w W pa pb a b) {N : Nat} (hg : a.Good N) :
    Calls Tryz.prog 12 #[.pointer (some ⟨pa, 0, none⟩)] W fun e w' => e = .returned (.int .i64 a.open_.2) ∧ Two w w' pa pb a.open_.1 b :=
  h.stepA fun own ha => topen_any ha hg.secret (by have := hg.asks; omega)
theorem Two.stateA (h : Two w W pa pb a b) : Calls Tryz.prog 14 #[.pointer (some ⟨pa, 0, none⟩)] W fun e w' => e = .returned (.int .i64 a.state) ∧ W = w' := by
  obtain ⟨oa, ha⟩ := h.atA
  exact state_any ha
theorem Two.peerA (h : Two w W pa pb a b) : Calls Tryz.prog 33 #[.pointer (some ⟨pa, 0, none⟩)] W fun e w' => e = .returned (.string a.peer) ∧ W = w' := by
  obtain ⟨oa, ha⟩ := h.atA
  exact peer_any ha
theorem Two.idsA (h : Two w W pa pb a b) : Calls Tryz.prog 23 #[.pointer (some ⟨pa, 0, none⟩)] W fun e w' => e = .returned (.tuple #[.int .i64 a.cid, .int .i64 a.id]) ∧ Two w w' pa pb a b := by
  obtain ⟨oa, ha⟩ := h.atA
  refine (ids_any ha).mono ?_
  rintro e w' ⟨rfl, k, rfl⟩
  exact ⟨rfl, h.keep ((Upd.refl _ _).drewN _)⟩
end
/-- The first end of a pair, opened: what it tells, and the two ends. -/
theorem open_endA (s : ByteArray) : (endA s).open_ = (openC (endA s), 0) := open_eq (startA s)
theorem openC_good (s : ByteArray) (hs : s.size ≤ 60) : (openC (endA s)).Good 29999 := by
  have h := (endA_good s hs).open_ (N := 29999)
  rw [open_endA] at h
  exact h
/-- A pair of which the first end opened, behind two rounds and more. -/
theorem pair_meet (s t : ByteArray) (hs : s.size ≤ 60) (ht : t.size ≤ 60) {w W : World} {pa pb : Nat} (h : Two w W pa pb (openC (endA s)) (endB t)) (n : Nat) (hn : n ≤ 100) :
    Calls Tryz.prog 13 #[.pointer (some ⟨pa, 0, none⟩), .pointer (some ⟨pb, 0, none⟩), .int .i64 n] W (MetEnd w pa pb (meetN n (openC (endA s), endB t)) 20000) :=
  meet_any n (by omega) ⟨h, (openC_good s hs).less (by omega), (endB_good t ht).less (by omega)⟩
structure AliveEnd (w : World) (e : Ending) (w' : World) : Prop where
  e : e = .returned (.bool true)
  u : Upd [] w w'
set_option maxHeartbeats 2000000 in
theorem alive21_any (w : World) : Calls Tryz.prog 10 #[] w (AliveEnd w) := by
  have hsz : (⟨#[115]⟩ : ByteArray).size ≤ 60 := by decide
  have HP := Lib.hid ((pair_any ⟨#[115]⟩ ⟨#[115]⟩ hsz hsz w).mono fun e w' k => k.ex)
  have HO : Hid ((endA ⟨#[115]⟩).open_ = (openC (endA ⟨#[115]⟩), 0)) := open_endA _
  have HG := Lib.hid (endA_good ⟨#[115]⟩ hsz)
  have HME : Hid (∀ W pa pb, Two w W pa pb (openC (endA ⟨#[115]⟩)) (endB ⟨#[115]⟩) → Calls Tryz.prog 13 #[.pointer (some ⟨pa, 0, none⟩), .pointer (some ⟨pb, 0, none⟩), .int .i64 2] W (MetEnd w pa pb (O5 (endA ⟨#[115]⟩) (endB ⟨#[115]⟩), R5 (endA ⟨#[115]⟩) (endB ⟨#[115]⟩)) 20000)) := by
    intro W pa pb h
    have k := pair_meet ⟨#[115]⟩ ⟨#[115]⟩ hsz hsz h 2 (by omega)
    rw [meet_know (startA _) (startB _) rfl (know_same rfl) 0] at k
    exact k
  have F : Hid ((O5 (endA ⟨#[115]⟩) (endB ⟨#[115]⟩)).state = 3 ∧ (O5 (endA ⟨#[115]⟩) (endB ⟨#[115]⟩)).cid = 5 ∧ (O5 (endA ⟨#[115]⟩) (endB ⟨#[115]⟩)).id = 9 ∧ (R5 (endA ⟨#[115]⟩) (endB ⟨#[115]⟩)).state = 3 ∧ (R5 (endA ⟨#[115]⟩) (endB ⟨#[115]⟩)).peer = ⟨#[97]⟩) := ⟨rfl, rfl, rfl, rfl, rfl⟩
  generalize O5 (endA ⟨#[115]⟩) (endB ⟨#[115]⟩) = A5 at *
  generalize R5 (endA ⟨#[115]⟩) (endB ⟨#[115]⟩) = B5 at *
  generalize endA ⟨#[115]⟩ = A0 at *
  generalize endB ⟨#[115]⟩ = B0 at *
  clear hsz
  go_enter Tryz.func10, Tryz.ntmps10
  go_wp2_with fail
  refine HP.out.mono ?_
  rintro e w1 ⟨pa, pb, rfl, h1⟩
  have H1 := Lib.hid h1
  clear h1
  go_wp2_with fail
  refine (H1.out.openA HG.out).mono ?_
  rintro e w2 ⟨rfl, h2⟩
  rw [HO.out] at h2
  simp only [HO.out]
  have H2 := Lib.hid h2
  clear h2
  go_wp2_with fail
  refine (HME.out _ _ _ H2.out).mono ?_
  rintro e w3 ⟨rfl, h3⟩
  have H3 := Lib.hid h3.two
  clear h3
  go_wp2_with fail
  refine H3.out.idsA.mono ?_
  rintro e w4 ⟨rfl, h4⟩
  rw [show A5.cid = 5 from F.out.2.1, show A5.id = 9 from F.out.2.2.1]
  have H4 := Lib.hid h4
  clear h4
  go_wp2_with fail
  refine H4.out.stateA.mono ?_
  rintro e w5 ⟨rfl, rfl⟩
  rw [show A5.state = 3 from F.out.1]
  go_wp2_with fail
  refine H4.out.swap.stateA.mono ?_
  rintro e w6 ⟨rfl, rfl⟩
  rw [show B5.state = 3 from F.out.2.2.2.1]
  go_wp2_with fail
  refine H4.out.swap.peerA.mono ?_
  rintro e w7 ⟨rfl, rfl⟩
  rw [show B5.peer = ⟨#[97]⟩ from F.out.2.2.2.2]
  go_wp2_with fail
  go_ret
  exact ⟨rfl, H4.out.u⟩
end Go.Proofs.YtolfjfkkbhbbbaaGreat
