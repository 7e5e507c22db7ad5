/- The walk of chapter 21's TunnelEnds. -/
import Derived.Test.YtolfjfkkbhbbbaaGreatQTunLA
import Derived.Test.YtolfjfkkbhbbbaaGreatQTunEv
namespace Go.Proofs.YtolfjfkkbhbbbaaGreat
open Go.RowKit
set_option linter.unusedSimpArgs false
set_option linter.unusedVariables false
set_option maxRecDepth 100000

def stopL : List Av := [numAv 0 4 2, numAv 9 5 2, numAv 1 1 2]
def stopB : ByteArray := bodyC 0 stopL
def endOk (p : Ev2) : Bool :=
  decide (p.a.st = 3) && decide (p.b.st = 3) && decide (p.a.told = false) && match (p.a.c.send stopB).1.out.2 with
    | [i] => decide (0 ≤ i.ns) && decide (i.ns < 65536) && decide (0 ≤ i.nr) && decide (i.nr < 65536) && decide (i.body = stopB) && decide ((p.b.c.take i.ns i.nr stopB).2.length = 1)
    | _ => false
def chkE : Nat → Ev2 → Bool
  | 0, p => endOk p
  | n + 1, p => endOk p && p.roundOk && chkE n p.round
theorem chkE_60 : chkE 60 ev0 = true := by decide +kernel
theorem chkE_all : ∀ (n j : Nat), chkE n (rounds j) = true → ∀ k, k ≤ n → endOk (rounds (j + k)) = true ∧ (k < n → (rounds (j + k)).roundOk = true)
  | 0, j, h, k, hk => by
    obtain rfl : k = 0 := by omega
    exact ⟨h, fun h => absurd h (by omega)⟩
  | n + 1, j, h, k, hk => by
    simp only [chkE, Bool.and_eq_true] at h
    cases k with
    | zero => exact ⟨h.1.1, fun _ => h.1.2⟩
    | succ k =>
      have := chkE_all n (j + 1) h.2 k (by omega)
      rw [show j + 1 + k = j + (k + 1) by omega] at this
      exact ⟨this.1, fun hk2 => this.2 (by omega)⟩
theorem ends_ok (k : Nat) (hk : k ≤ 60) : endOk (rounds k) = true ∧ (k < 60 → (rounds k).roundOk = true) := by
  have := chkE_all 60 0 chkE_60 k hk
  rwa [Nat.zero_add] at this
theorem endOk_live {p : Ev2} (h : endOk p = true) : p.a.st = 3 ∧ p.b.st = 3 ∧ p.a.told = false := by
  simp only [endOk, Bool.and_eq_true, decide_eq_true_eq] at h
  exact ⟨h.1.1.1, h.1.1.2, h.1.2⟩
/-- The end that is closed, as it is closed. -/
def closed (p : Ev2) : Ev := ⟨(p.a.c.send stopB).1, p.a.q, 4, p.a.told⟩
theorem close_eq {p : Ev2} {A : Tn} (h : endOk p = true) (hc : A.cid = 5) : (p.a.on A).close = (closed p).on A := by
  have h3 := (endOk_live h).1
  have he : (p.a.on A).endL 1 = stopL := by
    show [numAv 0 4 2, numAv 9 A.cid 2, numAv 1 1 2] = _
    rw [hc]; rfl
  have hcl := (stop_parts (p.a.on A) 1).1
  rw [he] at hcl
  rw [Tn.close, if_neg (by show ¬ p.a.st = 4; rw [h3]; decide), if_neg (by show ¬ p.a.st = 0; rw [h3]; decide), Tn.end_, he, send_clear hcl]
  rfl
theorem close_meet {p : Ev2} {A B : Tn} (h : endOk p = true) (hid : A.id = B.cid) (hc : A.cid = 5) (hB : 0 ≤ B.cid ∧ B.cid < 65536) :
    ∃ b', meetN 2 ((closed p).on A, p.b.on B) = (((closed p).on A).out.1, b') ∧ b'.state = 4 ∧ ((closed p).on A).out.1.state = 4 ∧ ((closed p).on A).out.1.told = true := by
  have h3 := endOk_live h
  have hst := stop_parts ({ A with cid := 5 } : Tn) 1
  have hcl : Clear stopL := hst.1
  have hk : kindOf stopL = 4 := hst.2.1
  have hck : checkOf stopL = 0 := hst.2.2
  have h4 : ((closed p).on A).out.1.state = 4 := out_state _
  have ht : ((closed p).on A).out.1.told = true := by
    rw [Ev.on_out]
    show (closed p).out.1.told = true
    unfold Ev.out
    rw [if_neg (by show ¬ p.a.told = true; rw [h3.2.2]; decide)]
    rfl
  have hitem : ∃ i, ((closed p).on A).out.2 = [sayM A.id i] ∧ ((0 ≤ i.ns ∧ i.ns < 65536) ∧ (0 ≤ i.nr ∧ i.nr < 65536)) ∧ i.body = stopB ∧ (p.b.c.take i.ns i.nr stopB).2.length = 1 := by
    rw [Ev.on_out]
    dsimp only
    rw [Ev.out, if_neg (by show ¬ p.a.told = true; rw [h3.2.2]; decide)]
    dsimp only [closed]
    simp only [endOk, Bool.and_eq_true] at h
    have h2 := h.2
    split at h2
    · rename_i i hi
      simp only [Bool.and_eq_true, decide_eq_true_eq] at h2
      exact ⟨i, by rw [hi]; rfl, ⟨⟨h2.1.1.1.1.1, h2.1.1.1.1.2⟩, ⟨h2.1.1.1.2, h2.1.1.2⟩⟩, h2.1.2, h2.2⟩
    · cases h2
  obtain ⟨i, e1, ⟨w1, w2⟩, e3, e4⟩ := hitem
  obtain ⟨ns, nr, bd⟩ := i
  dsimp only at w1 w2 e3 e4
  subst e3
  have hb4 : (feed (p.b.on B) ((closed p).on A).out.2).state = 4 := by
    rw [e1, feed_one, hid, show stopB = bodyC 0 stopL from rfl, take_clear ⟨hB, by omega, w1, w2⟩ hcl (p.b.on B) (by show p.b.st ≠ 4; rw [h3.2.1]; decide), takeM_mine (p.b.on B) _ _ rfl (.inl (by rw [hk]; decide)), Tn.hear,
      if_neg (by intro h0; have : (p.b.c.take ns nr stopB).2 = [] := h0; rw [this] at e4; cases e4), handle4 _ _ hk hck]
  refine ⟨(feed (p.b.on B) ((closed p).on A).out.2).out.1.out.1, ?_, ?_, h4, ht⟩
  · show meet1 (meet1 ((closed p).on A, p.b.on B)) = _
    have m1 : meet1 ((closed p).on A, p.b.on B) = (((closed p).on A).out.1, (feed (p.b.on B) ((closed p).on A).out.2).out.1) := by
      unfold meet1
      dsimp only
      rw [dead_feed h4]
    have hb5 : (feed (p.b.on B) ((closed p).on A).out.2).out.1.state = 4 := (out_state _).trans hb4
    rw [m1]
    unfold meet1
    dsimp only
    rw [out_told _ ht]
    dsimp only
    rw [dead_feed hb5, dead_feed h4]
  · exact (out_state _).trans ((out_state _).trans hb4)
section
variable {w W : World} {pa pb : Nat} {a b : Tn}
theorem Two.tickA (h : Two w W pa pb a b) {N : Nat} (hg : a.Good N) :
    Calls Tryz.prog 28 #[.pointer (some ⟨pa, 0, none⟩)] W fun e w' => e = .returned (.tuple #[]) ∧ Two w w' pa pb a.tick b :=
  h.stepA fun own ha => ttick_any ha hg.secret hg.hello (by have := hg.quiet; omega) (by have := hg.since; omega)
theorem Two.closeA (h : Two w W pa pb a b) {N : Nat} (hg : a.Good N) :
    Calls Tryz.prog 30 #[.pointer (some ⟨pa, 0, none⟩)] W fun e w' => e = .returned (.tuple #[]) ∧ Two w w' pa pb a.close b :=
  h.stepA fun own ha => tclose_any ha (by have := hg.secret; omega)
end

set_option maxHeartbeats 2000000 in
theorem tunnelEnds_any (s : ByteArray) (ticks : Int) (w : World) :
    Calls Tryz.prog 8 #[.string s, .int .i64 ticks] w (AliveEnd w) := by
  have HAL := Lib.hid alive21_any
  by_cases hs : s.size ≤ 60
  case neg =>
    go_enter Tryz.func8, Tryz.ntmps8
    go_wp2_with fail
    refine (HAL.out _).mono ?_
    rintro e w1 ⟨rfl, u1⟩
    go_wp2_with fail
    go_ret
    exact ⟨rfl, u1⟩
  by_cases ht0 : 0 ≤ ticks
  case neg =>
    go_enter Tryz.func8, Tryz.ntmps8
    go_wp2_with fail
    refine (HAL.out _).mono ?_
    rintro e w1 ⟨rfl, u1⟩
    go_wp2_with fail
    go_ret
    exact ⟨rfl, u1⟩
  obtain ⟨n, rfl⟩ := Int.eq_ofNat_of_zero_le ht0
  by_cases hn : n ≤ 60
  case neg =>
    go_enter Tryz.func8, Tryz.ntmps8
    go_wp2_with fail
    refine (HAL.out _).mono ?_
    rintro e w1 ⟨rfl, u1⟩
    go_wp2_with fail
    go_ret
    exact ⟨rfl, u1⟩
  have HP := Lib.hid ((pair_any s s hs hs w).mono fun e w' k => k.ex)
  have HO : Hid ((endA s).open_ = (openC (endA s), 0)) := open_endA _
  have HG := Lib.hid (endA_good s hs)
  have HME : Hid (∀ W pa pb, Two w W pa pb (openC (endA s)) (endB s) → Calls Tryz.prog 13 #[.pointer (some ⟨pa, 0, none⟩), .pointer (some ⟨pb, 0, none⟩), .int .i64 4] W (MetEnd w pa pb (ev0.a.on (O5 (endA s) (endB s)), ev0.b.on (R5 (endA s) (endB s))) 20000)) := by
    intro W pa pb h
    have k := pair_meet s s hs hs h 4 (by omega)
    rw [meet_know (startA s) (startB s) rfl (know_same rfl) 2] at k
    exact k
  have F : Hid ((O5 (endA s) (endB s)).id = (R5 (endA s) (endB s)).cid ∧ (R5 (endA s) (endB s)).id = (O5 (endA s) (endB s)).cid ∧ (O5 (endA s) (endB s)).cid = 5 ∧ (R5 (endA s) (endB s)).cid = 9 ∧ (O5 (endA s) (endB s)).hello = 20 ∧ (R5 (endA s) (endB s)).hello = 20) := ⟨rfl, rfl, rfl, rfl, rfl, rfl⟩
  generalize O5 (endA s) (endB s) = A5 at *
  generalize R5 (endA s) (endB s) = B5 at *
  generalize openC (endA s) = A1 at *
  generalize endA s = A0 at *
  generalize endB s = B0 at *
  have HS := Lib.hid hs
  clear ht0
  go_enter Tryz.func8, Tryz.ntmps8
  go_wp2_with fail
  refine HP.out.mono ?_
  rintro e w1 ⟨pa, pb, rfl, h1⟩
  have H1 := Lib.hid h1
  clear h1
  go_wp2_with fail
  refine (H1.out.openA HG.out).mono ?_
  rintro e w2 ⟨rfl, h2⟩
  rw [HO.out] at h2
  simp only [HO.out]
  have H2 := Lib.hid h2
  clear h2
  go_wp2_with fail
  refine (HME.out _ _ _ H2.out).mono ?_
  rintro e w3 ⟨rfl, h3⟩
  have H3 := Lib.hid h3
  clear h3 HME HG HO HP H1 H2
  go_wp2_with fail
  go_loopg [8] n (fun m s8 wr => ∃ k : Nat, k + m = n ∧ s8 = .int .i64 k ∧ Met w wr pa pb ((rounds k).a.on A5, (rounds k).b.on B5) (10000 + 43 * (60 - k)))
  case atStart => exact ⟨0, by omega, rfl, ⟨H3.out.two, H3.out.ga.less (by omega), H3.out.gb.less (by omega)⟩⟩
  case round =>
    obtain ⟨k, hk, rfl, hr⟩ := hrel
    obtain ⟨eok, rok⟩ := ends_ok k (by omega)
    have HE := Lib.hid eok
    have HL := Lib.hid (endOk_live eok)
    by_cases tt : k < n
    · have hm := on_meet (p := ⟨(rounds k).a.tick, (rounds k).b.tick⟩) (A := A5) (B := B5) (Ev.tick_live (.inl HL.out.1)) (Ev.tick_live (.inl HL.out.2.1)) F.out.1 F.out.2.1 (by rw [F.out.2.2.1]; omega) (by rw [F.out.2.2.2.1]; omega) (rok (by omega))
      have HM : Hid (meetN 1 ((rounds k).a.tick.on A5, (rounds k).b.tick.on B5) = ((rounds (k + 1)).a.on A5, (rounds (k + 1)).b.on B5)) := hm.1
      have HTA : Hid (((rounds k).a.on A5).tick = (rounds k).a.tick.on A5) := Ev.on_tick (.inl HL.out.1) F.out.2.2.2.2.1
      have HTB : Hid (((rounds k).b.on B5).tick = (rounds k).b.tick.on B5) := Ev.on_tick (.inl HL.out.2.1) F.out.2.2.2.2.2
      have HR : Hid (Met w wr pa pb ((rounds k).a.on A5, (rounds k).b.on B5) (10000 + 43 * (60 - (k + 1)) + 42 + 1)) := ⟨hr.two, hr.ga.ofEq (by omega), hr.gb.ofEq (by omega)⟩
      clear hr hm eok rok
      obtain ⟨A7, hA7⟩ : ∃ x, (rounds (k + 1)).a.on A5 = x := ⟨_, rfl⟩
      obtain ⟨B7, hB7⟩ : ∃ x, (rounds (k + 1)).b.on B5 = x := ⟨_, rfl⟩
      have HA7 := Lib.hid hA7
      have HB7 := Lib.hid hB7
      rw [hA7, hB7] at HM
      clear hA7 hB7
      generalize (rounds k).a.tick.on A5 = A6 at *
      generalize (rounds k).b.tick.on B5 = B6 at *
      generalize (rounds k).a.on A5 = A8 at *
      generalize (rounds k).b.on B5 = B8 at *
      go_wp2_with fail
      refine (HR.out.two.tickA HR.out.ga).mono ?_
      rintro e w4 ⟨rfl, h4⟩
      have H4 := Lib.hid h4
      clear h4
      go_wp2_with fail
      refine (H4.out.swap.tickA HR.out.gb).mono ?_
      rintro e w5 ⟨rfl, h5⟩
      have H5 : Hid (Met w w5 pa pb (A6, B6) (10000 + 43 * (60 - (k + 1)) + 42 * 1)) := ⟨by have := h5.swap; rw [← HTA.out, ← HTB.out]; exact this, by have := HR.out.ga.tick; rw [← HTA.out]; exact this, by have := HR.out.gb.tick; rw [← HTB.out]; exact this⟩
      clear h5
      have HME := Lib.hid (meet_any 1 (by omega) H5.out)
      rw [HM.out] at HME
      go_wp2_with fail
      refine HME.out.mono ?_
      rintro e w6 ⟨rfl, h6⟩
      have H6 := Lib.hid h6
      clear h6
      go_wp2_with fail
      go_roundg (n - (k + 1))
      case rel => exact ⟨k + 1, by omega, by go_num, by rw [HA7.out, HB7.out]; exact H6.out⟩
      case measure => omega
    · obtain rfl : k = n := by omega
      have HC : Hid (((rounds k).a.on A5).close = (closed (rounds k)).on A5) := close_eq HE.out F.out.2.2.1
      have HX : Hid (∃ b', meetN 2 ((closed (rounds k)).on A5, (rounds k).b.on B5) = (((closed (rounds k)).on A5).out.1, b') ∧ b'.state = 4 ∧ ((closed (rounds k)).on A5).out.1.state = 4 ∧ ((closed (rounds k)).on A5).out.1.told = true) :=
        close_meet HE.out F.out.1 F.out.2.2.1 (by rw [F.out.2.2.2.1]; omega)
      have HST : Hid (((rounds k).a.on A5).state = 3 ∧ ((rounds k).b.on B5).state = 3) := ⟨HL.out.1, HL.out.2.1⟩
      have HR : Hid (Met w wr pa pb ((rounds k).a.on A5, (rounds k).b.on B5) (100 + 42 * 2)) := ⟨hr.two, hr.ga.less (by omega), hr.gb.less (by omega)⟩
      clear hr eok rok
      obtain ⟨b', x1, x2, x3, x4⟩ := HX.out
      have HX1 := Lib.hid x1
      have HX2 := Lib.hid (And.intro x2 (And.intro x3 x4))
      clear HX x1 x2 x3 x4
      generalize ((closed (rounds k)).on A5).out.1 = A9 at *
      generalize (closed (rounds k)).on A5 = A7 at *
      generalize (rounds k).a.on A5 = A8 at *
      generalize (rounds k).b.on B5 = B8 at *
      go_wp2_with fail
      refine HR.out.two.stateA.mono ?_
      rintro e w4 ⟨rfl, rfl⟩
      dsimp only
      rw [HST.out.1]
      go_wp2_with fail
      refine HR.out.two.swap.stateA.mono ?_
      rintro e w4 ⟨rfl, rfl⟩
      dsimp only
      rw [HST.out.2]
      go_wp2_with fail
      refine (HR.out.two.closeA HR.out.ga).mono ?_
      rintro e w5 ⟨rfl, h5⟩
      have H5 : Hid (Met w w5 pa pb (A7, B8) (100 + 42 * 2)) := ⟨by rw [← HC.out]; exact h5, by rw [← HC.out]; exact HR.out.ga.close, HR.out.gb⟩
      clear h5
      have HME := Lib.hid (meet_any 2 (by omega) H5.out)
      rw [HX1.out] at HME
      go_wp2_with fail
      refine HME.out.mono ?_
      rintro e w6 ⟨rfl, h6⟩
      have H6 := Lib.hid h6
      clear h6
      go_wp2_with fail
      refine (HAL.out _).mono ?_
      rintro e w7 ⟨rfl, u7⟩
      have H7 := Lib.hid (H6.out.two.keep u7)
      have HG9 := Lib.hid H6.out.ga
      clear u7
      go_wp2_with fail
      refine H7.out.stateA.mono ?_
      rintro e w8 ⟨rfl, rfl⟩
      dsimp only
      rw [HX2.out.2.1]
      go_wp2_with fail
      refine H7.out.swap.stateA.mono ?_
      rintro e w8 ⟨rfl, rfl⟩
      dsimp only
      rw [HX2.out.1]
      go_wp2_with fail
      refine (H7.out.outA HG9.out).mono ?_
      rw [out_told _ HX2.out.2.2]
      rintro e w9 ⟨vo, rfl, h9⟩
      obtain ⟨ao9, cap9, rfl⟩ := h9.shape
      have H9 := Lib.hid h9.two
      clear h9
      simp only [List.length_nil]
      go_wp2_with fail
      refine (H9.out.openA HG9.out).mono ?_
      rw [show A9.open_ = (A9, 20) by rw [Tn.open_, if_pos (by rw [HX2.out.2.1]; decide)]]
      rintro e w10 ⟨rfl, h10⟩
      have H10 := Lib.hid h10.u
      clear h10
      go_wp2_with fail
      go_ret
      exact ⟨rfl, H10.out⟩
theorem tunnelEnds_walk (s : ByteArray) {P : Prop} (_ : P) (ticks : Int) {Q : Prop} (_ : Q) (W : World) :
    Calls Tryz.prog 8 #[.string s, .int .i64 ticks] W fun e w' => e = .returned (.bool true) ∧ Below W.heap.size W w' :=
  (tunnelEnds_any s ticks W).mono fun e w' ⟨he, hu⟩ => ⟨he, hu.below⟩
end Go.Proofs.YtolfjfkkbhbbbaaGreat
