/- WRITTEN by wip/gen/bkapart.py. The walk of Apart at a book that holds Options and nothing else. -/
import Derived.Test.YthkfgjmifoeljaaGreatBkNil
import Derived.Test.YthkfgjmifoeljaaGreatBkOptionsD
namespace Go.Proofs.YthkfgjmifoeljaaGreat
open Go.RowKit
set_option linter.unusedSimpArgs false
set_option linter.unusedVariables false
set_option maxRecDepth 100000

/-- A book that holds these kinds alone. -/
def BkOptions (w0 w : World) (g : Nat) (ROptions : List (Bit Tg)) : Prop :=
  ∃ cs, Blk w g 47 cs ∧ w0.heap.size ≤ g ∧ (∀ j, j < 36 → j ∉ ([8, 9] : List Nat) → cs[j]? = some (.slice none 0 0)) ∧ KindAt bkCOptions 67 22 2 4 w0 w cs ROptions
theorem BkOptions.upd {w0 w w' : World} {g : Nat} {ROptions : List (Bit Tg)} (h : BkOptions w0 w g ROptions) (hu : Upd [] w w') : BkOptions w0 w' g ROptions := by
  obtain ⟨cs, hb, hg, hz, hOptions⟩ := h
  exact ⟨cs, hb.upd hu (by simp), hg, hz, hOptions.upd hu⟩
theorem BkOptions.zero (w0 w : World) (h0 : Upd [] w0 w) {cs : Array Value} (hc : cs = #[.slice none 0 0, .slice none 0 0, .slice none 0 0, .slice none 0 0, .slice none 0 0, .slice none 0 0, .slice none 0 0, .slice none 0 0, .slice none 0 0, .slice none 0 0, .slice none 0 0, .slice none 0 0, .slice none 0 0, .slice none 0 0, .slice none 0 0, .slice none 0 0, .slice none 0 0, .slice none 0 0, .slice none 0 0, .slice none 0 0, .slice none 0 0, .slice none 0 0, .slice none 0 0, .slice none 0 0, .slice none 0 0, .slice none 0 0, .slice none 0 0, .slice none 0 0, .slice none 0 0, .slice none 0 0, .slice none 0 0, .slice none 0 0, .slice none 0 0, .slice none 0 0, .slice none 0 0, .slice none 0 0]) : BkOptions w0 (w.alloc (.cells cs 47)) w.heap.size [] := by
  subst hc
  refine ⟨_, Blk.new _ _ _, h0.size, fun j hj _ => ?_, KindAt.zero w0 _ (h0.alloc _) rfl rfl⟩
  rcases j with _ | _ | _ | _ | _ | _ | _ | _ | _ | _ | _ | _ | _ | _ | _ | _ | _ | _ | _ | _ | _ | _ | _ | _ | _ | _ | _ | _ | _ | _ | _ | _ | _ | _ | _ | _ | j <;> first | rfl | omega

theorem BkOptions.ups {w0 w : World} {g : Nat} {ROptions : List (Bit Tg)} (h : BkOptions w0 w g ROptions) : Upd [] w0 w := by
  obtain ⟨cs, hb, hg, hz, hOptions⟩ := h
  obtain ⟨ao, cap, oo, aw, cw, ow, C, a1, a2, a3, a4, a5, a6, a7, a8, a9, r⟩ := hOptions
  exact a9.upd
/-- What a list put into the book leaves. -/
def BkOptionsAddOptions (w0 w : World) (g : Nat) (ROptions : List (Bit Tg)) (b : Bit Tg) (e : Ending) (w' : World) : Prop := e = .returned (.tuple #[]) ∧ BkOptions w0 w' g (if ROptions.length < 250 then ROptions ++ [b] else ROptions) ∧ UpdT [47, 22] w0.heap.size w w'
theorem BkOptions.addOptions {w0 w : World} {g : Nat} {ROptions : List (Bit Tg)} (h : BkOptions w0 w g ROptions) (b : Bit Tg) (hb : Held bkCOptions 67 2 w b) (hl : b.l.length ≤ 100000) (hlo : ∀ k ∈ b.own, w0.heap.size ≤ k) (hnew : ∀ d ∈ ROptions, ∀ k ∈ d.own, k ∉ b.own) :
    Calls Tryz.prog 28 #[.pointer (some ⟨g, 0, none⟩), b.v] w (BkOptionsAddOptions w0 w g ROptions b) := by
  obtain ⟨cs, hbk, hg, hz, hOptions⟩ := h
  refine (bkAddOptions w0 w b hbk hg hOptions hb hl hlo hnew).mono ?_
  rintro e w' ⟨he, cs', hb2, hk2, hs2, hu2⟩
  refine ⟨he, ⟨cs', hb2, hg, fun j hj hn => ?_, hk2⟩, hu2⟩
  rw [hs2 j (fun e => hn (by simp [e])) (fun e => hn (by simp [e]))]
  exact hz j hj hn
theorem BkOptions.ltOptions {w0 w : World} {g : Nat} {ROptions : List (Bit Tg)} (h : BkOptions w0 w g ROptions) : ∀ d ∈ ROptions, ∀ k ∈ d.own, k < w.heap.size := by
  obtain ⟨cs, hbk, hg, hz, hOptions⟩ := h
  exact hOptions.lt
set_option maxHeartbeats 40000000 in
theorem apartOptions_any {w0 w : World} {g : Nat} {ROptions : List (Bit Tg)} (h : BkOptions w0 w g ROptions) :
    Calls Tryz.prog 29 #[.pointer (some ⟨g, 0, none⟩)] w fun e w' => e = .returned (.bool true) ∧ Upd [] w0 w' := by
  obtain ⟨cs, hb, hg, hz, hOptions⟩ := h
  have HB := Lib.hid hb
  have HZ := Lib.hid hz
  have HKOptions := Lib.hid hOptions
  have H0 : Hid (Upd [] w0 w) := by
    obtain ⟨ao, cap, oo, aw, cw, ow, C, a1, a2, a3, a4, a5, a6, a7, a8, a9, r⟩ := hOptions
    exact a9.upd
  clear hb hz hOptions
  go_enter Tryz.func29, Tryz.ntmps29
  try simp only [List.append_eq, List.cons_append, List.nil_append]
  go_wp2_with (first
    | (go_at_call 46; refine (stillTexts_nil HB.out (HZ.out 0 (by decide) (by decide))).mono ?_; rintro e w' ⟨rfl, rfl⟩)
    | (go_at_call 47; refine (stillInts_nil HB.out (HZ.out 2 (by decide) (by decide))).mono ?_; rintro e w' ⟨rfl, rfl⟩)
    | (go_at_call 48; refine (stillEthers_nil HB.out (HZ.out 4 (by decide) (by decide))).mono ?_; rintro e w' ⟨rfl, rfl⟩)
    | (go_at_call 49; refine (stillTags_nil HB.out (HZ.out 6 (by decide) (by decide))).mono ?_; rintro e w' ⟨rfl, rfl⟩)
    | (go_at_call 50; refine (bkStillOptions w0 _ HB.out HKOptions.out).mono ?_; rintro e w1 ⟨rfl, hu1⟩; have HB := Lib.hid (HB.out.upd hu1 (by simp)); have H0 := Lib.hid (H0.out.trans hu1); have HKOptions := Lib.hid (HKOptions.out.upd hu1); clear hu1)
    | (go_at_call 51; refine (stillPackets_nil HB.out (HZ.out 10 (by decide) (by decide))).mono ?_; rintro e w' ⟨rfl, rfl⟩)
    | (go_at_call 52; refine (stillAvps_nil HB.out (HZ.out 12 (by decide) (by decide))).mono ?_; rintro e w' ⟨rfl, rfl⟩)
    | (go_at_call 53; refine (stillCtls_nil HB.out (HZ.out 14 (by decide) (by decide))).mono ?_; rintro e w' ⟨rfl, rfl⟩)
    | (go_at_call 54; refine (stillKeys_nil HB.out (HZ.out 16 (by decide) (by decide))).mono ?_; rintro e w' ⟨rfl, rfl⟩)
    | (go_at_call 55; refine (stillSessions_nil HB.out (HZ.out 18 (by decide) (by decide))).mono ?_; rintro e w' ⟨rfl, rfl⟩)
    | (go_at_call 56; refine (stillIds_nil HB.out (HZ.out 20 (by decide) (by decide))).mono ?_; rintro e w' ⟨rfl, rfl⟩)
    | (go_at_call 57; refine (stillGrams_nil HB.out (HZ.out 22 (by decide) (by decide))).mono ?_; rintro e w' ⟨rfl, rfl⟩)
    | (go_at_call 58; refine (stillSays_nil HB.out (HZ.out 24 (by decide) (by decide))).mono ?_; rintro e w' ⟨rfl, rfl⟩)
    | (go_at_call 59; refine (stillItems_nil HB.out (HZ.out 26 (by decide) (by decide))).mono ?_; rintro e w' ⟨rfl, rfl⟩)
    | (go_at_call 60; refine (stillLines_nil HB.out (HZ.out 28 (by decide) (by decide))).mono ?_; rintro e w' ⟨rfl, rfl⟩)
    | (go_at_call 61; refine (stillSeats_nil HB.out (HZ.out 30 (by decide) (by decide))).mono ?_; rintro e w' ⟨rfl, rfl⟩)
    | (go_at_call 62; refine (stillEvents_nil HB.out (HZ.out 32 (by decide) (by decide))).mono ?_; rintro e w' ⟨rfl, rfl⟩)
    | (go_at_call 63; refine (stillSteps_nil HB.out (HZ.out 34 (by decide) (by decide))).mono ?_; rintro e w' ⟨rfl, rfl⟩)
    | (go_at_call 64; refine (putPackets_nil HB.out (HZ.out 10 (by decide) (by decide))).mono ?_; rintro e w' ⟨rfl, rfl⟩)
    | (go_at_call 65; refine (putCtls_nil HB.out (HZ.out 14 (by decide) (by decide))).mono ?_; rintro e w' ⟨rfl, rfl⟩)
    | (go_at_call 66; refine (putSays_nil HB.out (HZ.out 24 (by decide) (by decide))).mono ?_; rintro e w' ⟨rfl, rfl⟩)
    | (go_at_call 67; refine (putSteps_nil HB.out (HZ.out 34 (by decide) (by decide))).mono ?_; rintro e w' ⟨rfl, rfl⟩)
    | (go_at_call 68; refine (putTexts_nil HB.out (HZ.out 0 (by decide) (by decide))).mono ?_; rintro e w' ⟨rfl, rfl⟩)
    | (go_at_call 69; refine (putInts_nil HB.out (HZ.out 2 (by decide) (by decide))).mono ?_; rintro e w' ⟨rfl, rfl⟩)
    | (go_at_call 70; refine (putEthers_nil HB.out (HZ.out 4 (by decide) (by decide))).mono ?_; rintro e w' ⟨rfl, rfl⟩)
    | (go_at_call 71; refine (putTags_nil HB.out (HZ.out 6 (by decide) (by decide))).mono ?_; rintro e w' ⟨rfl, rfl⟩)
    | (go_at_call 72; refine (bkPutOptions w0 _ HB.out HKOptions.out).mono ?_; rintro e w1 ⟨rfl, hp1, hu1⟩; have HB := Lib.hid (HB.out.updT hu1 (by decide)); have H0 := Lib.hid (hu1.below H0.out); have HPOptions := Lib.hid hp1; clear HKOptions hp1; clear hu1)
    | (go_at_call 73; refine (putAvps_nil HB.out (HZ.out 12 (by decide) (by decide))).mono ?_; rintro e w' ⟨rfl, rfl⟩)
    | (go_at_call 74; refine (putKeys_nil HB.out (HZ.out 16 (by decide) (by decide))).mono ?_; rintro e w' ⟨rfl, rfl⟩)
    | (go_at_call 75; refine (putSessions_nil HB.out (HZ.out 18 (by decide) (by decide))).mono ?_; rintro e w' ⟨rfl, rfl⟩)
    | (go_at_call 76; refine (putIds_nil HB.out (HZ.out 20 (by decide) (by decide))).mono ?_; rintro e w' ⟨rfl, rfl⟩)
    | (go_at_call 77; refine (putGrams_nil HB.out (HZ.out 22 (by decide) (by decide))).mono ?_; rintro e w' ⟨rfl, rfl⟩)
    | (go_at_call 78; refine (putItems_nil HB.out (HZ.out 26 (by decide) (by decide))).mono ?_; rintro e w' ⟨rfl, rfl⟩)
    | (go_at_call 79; refine (putLines_nil HB.out (HZ.out 28 (by decide) (by decide))).mono ?_; rintro e w' ⟨rfl, rfl⟩)
    | (go_at_call 80; refine (putSeats_nil HB.out (HZ.out 30 (by decide) (by decide))).mono ?_; rintro e w' ⟨rfl, rfl⟩)
    | (go_at_call 81; refine (putEvents_nil HB.out (HZ.out 32 (by decide) (by decide))).mono ?_; rintro e w' ⟨rfl, rfl⟩)
    | (go_at_call 82; refine (growTexts_nil HB.out (HZ.out 0 (by decide) (by decide))).mono ?_; rintro e w' ⟨rfl, rfl⟩)
    | (go_at_call 83; refine (growInts_nil HB.out (HZ.out 2 (by decide) (by decide))).mono ?_; rintro e w' ⟨rfl, rfl⟩)
    | (go_at_call 84; refine (growEthers_nil HB.out (HZ.out 4 (by decide) (by decide))).mono ?_; rintro e w' ⟨rfl, rfl⟩)
    | (go_at_call 85; refine (growTags_nil HB.out (HZ.out 6 (by decide) (by decide))).mono ?_; rintro e w' ⟨rfl, rfl⟩)
    | (go_at_call 86; refine (bkGrowOptions w0 _ HB.out HPOptions.out).mono ?_; rintro e w1 ⟨vOptions, uOptions, rfl, hv1, hc1, hm1, hu1⟩; have HB := Lib.hid (HB.out.updT hu1 (by decide)); have H0 := Lib.hid (hu1.below H0.out); have HVOptions := Lib.hid hv1; have HMOptions := Lib.hid hm1; have HCOptions := Lib.hid hc1; clear HPOptions hv1 hm1 hc1; clear hu1)
    | (go_at_call 87; refine (growPackets_nil HB.out (HZ.out 10 (by decide) (by decide))).mono ?_; rintro e w' ⟨rfl, rfl⟩)
    | (go_at_call 88; refine (growAvps_nil HB.out (HZ.out 12 (by decide) (by decide))).mono ?_; rintro e w' ⟨rfl, rfl⟩)
    | (go_at_call 89; refine (growCtls_nil HB.out (HZ.out 14 (by decide) (by decide))).mono ?_; rintro e w' ⟨rfl, rfl⟩)
    | (go_at_call 90; refine (growKeys_nil HB.out (HZ.out 16 (by decide) (by decide))).mono ?_; rintro e w' ⟨rfl, rfl⟩)
    | (go_at_call 91; refine (growSessions_nil HB.out (HZ.out 18 (by decide) (by decide))).mono ?_; rintro e w' ⟨rfl, rfl⟩)
    | (go_at_call 92; refine (growIds_nil HB.out (HZ.out 20 (by decide) (by decide))).mono ?_; rintro e w' ⟨rfl, rfl⟩)
    | (go_at_call 93; refine (growGrams_nil HB.out (HZ.out 22 (by decide) (by decide))).mono ?_; rintro e w' ⟨rfl, rfl⟩)
    | (go_at_call 94; refine (growSays_nil HB.out (HZ.out 24 (by decide) (by decide))).mono ?_; rintro e w' ⟨rfl, rfl⟩)
    | (go_at_call 95; refine (growItems_nil HB.out (HZ.out 26 (by decide) (by decide))).mono ?_; rintro e w' ⟨rfl, rfl⟩)
    | (go_at_call 96; refine (growLines_nil HB.out (HZ.out 28 (by decide) (by decide))).mono ?_; rintro e w' ⟨rfl, rfl⟩)
    | (go_at_call 97; refine (growSeats_nil HB.out (HZ.out 30 (by decide) (by decide))).mono ?_; rintro e w' ⟨rfl, rfl⟩)
    | (go_at_call 98; refine (growEvents_nil HB.out (HZ.out 32 (by decide) (by decide))).mono ?_; rintro e w' ⟨rfl, rfl⟩)
    | (go_at_call 99; refine (growSteps_nil HB.out (HZ.out 34 (by decide) (by decide))).mono ?_; rintro e w' ⟨rfl, rfl⟩; have b0 := HB.out.cell 0; rw [HZ.out 0 (by decide) (by decide)] at b0; have b1 := HB.out.cell 2; rw [HZ.out 2 (by decide) (by decide)] at b1; have b2 := HB.out.cell 4; rw [HZ.out 4 (by decide) (by decide)] at b2; have b3 := HB.out.cell 6; rw [HZ.out 6 (by decide) (by decide)] at b3; have b4 := HB.out.cell 8; rw [HCOptions.out] at b4; have b5 := HB.out.cell 10; rw [HZ.out 10 (by decide) (by decide)] at b5; have b6 := HB.out.cell 12; rw [HZ.out 12 (by decide) (by decide)] at b6; have b7 := HB.out.cell 14; rw [HZ.out 14 (by decide) (by decide)] at b7; have b8 := HB.out.cell 16; rw [HZ.out 16 (by decide) (by decide)] at b8; have b9 := HB.out.cell 18; rw [HZ.out 18 (by decide) (by decide)] at b9; have b10 := HB.out.cell 20; rw [HZ.out 20 (by decide) (by decide)] at b10; have b11 := HB.out.cell 22; rw [HZ.out 22 (by decide) (by decide)] at b11; have b12 := HB.out.cell 24; rw [HZ.out 24 (by decide) (by decide)] at b12; have b13 := HB.out.cell 26; rw [HZ.out 26 (by decide) (by decide)] at b13; have b14 := HB.out.cell 28; rw [HZ.out 28 (by decide) (by decide)] at b14; have b15 := HB.out.cell 30; rw [HZ.out 30 (by decide) (by decide)] at b15; have b16 := HB.out.cell 32; rw [HZ.out 32 (by decide) (by decide)] at b16; have b17 := HB.out.cell 34; rw [HZ.out 34 (by decide) (by decide)] at b17)
    | (go_at_call 100; refine (markedTexts_nil _).mono ?_; rintro e w' ⟨rfl, rfl⟩)
    | (go_at_call 101; refine (markedInts_nil _).mono ?_; rintro e w' ⟨rfl, rfl⟩)
    | (go_at_call 102; refine (markedEthers_nil _).mono ?_; rintro e w' ⟨rfl, rfl⟩)
    | (go_at_call 103; refine (markedTags_nil _).mono ?_; rintro e w' ⟨rfl, rfl⟩)
    | (go_at_call 104; (first | (with_reducible refine (bkMarkedOptions _ _ HVOptions.out).mono ?_) | (with_reducible refine (bkMarkedOptions _ _ HMOptions.out).mono ?_)); rintro e w1 ⟨rfl, hu1⟩; have HB := Lib.hid (HB.out.upd hu1 (by simp)); have H0 := Lib.hid (H0.out.trans hu1); have HVOptions := Lib.hid (HVOptions.out.updT (T := []) (lo := 0) (.of_nil hu1) (by simp) (by simp)); have HMOptions := Lib.hid (HMOptions.out.updT (T := []) (lo := 0) (.of_nil hu1) (by simp) (by simp)); clear hu1; clear b0; have b0 := HB.out.cell 0; rw [HZ.out 0 (by decide) (by decide)] at b0; clear b1; have b1 := HB.out.cell 2; rw [HZ.out 2 (by decide) (by decide)] at b1; clear b2; have b2 := HB.out.cell 4; rw [HZ.out 4 (by decide) (by decide)] at b2; clear b3; have b3 := HB.out.cell 6; rw [HZ.out 6 (by decide) (by decide)] at b3; clear b4; have b4 := HB.out.cell 8; rw [HCOptions.out] at b4; clear b5; have b5 := HB.out.cell 10; rw [HZ.out 10 (by decide) (by decide)] at b5; clear b6; have b6 := HB.out.cell 12; rw [HZ.out 12 (by decide) (by decide)] at b6; clear b7; have b7 := HB.out.cell 14; rw [HZ.out 14 (by decide) (by decide)] at b7; clear b8; have b8 := HB.out.cell 16; rw [HZ.out 16 (by decide) (by decide)] at b8; clear b9; have b9 := HB.out.cell 18; rw [HZ.out 18 (by decide) (by decide)] at b9; clear b10; have b10 := HB.out.cell 20; rw [HZ.out 20 (by decide) (by decide)] at b10; clear b11; have b11 := HB.out.cell 22; rw [HZ.out 22 (by decide) (by decide)] at b11; clear b12; have b12 := HB.out.cell 24; rw [HZ.out 24 (by decide) (by decide)] at b12; clear b13; have b13 := HB.out.cell 26; rw [HZ.out 26 (by decide) (by decide)] at b13; clear b14; have b14 := HB.out.cell 28; rw [HZ.out 28 (by decide) (by decide)] at b14; clear b15; have b15 := HB.out.cell 30; rw [HZ.out 30 (by decide) (by decide)] at b15; clear b16; have b16 := HB.out.cell 32; rw [HZ.out 32 (by decide) (by decide)] at b16; clear b17; have b17 := HB.out.cell 34; rw [HZ.out 34 (by decide) (by decide)] at b17)
    | (go_at_call 105; refine (markedPackets_nil _).mono ?_; rintro e w' ⟨rfl, rfl⟩)
    | (go_at_call 106; refine (markedAvps_nil _).mono ?_; rintro e w' ⟨rfl, rfl⟩)
    | (go_at_call 107; refine (markedCtls_nil _).mono ?_; rintro e w' ⟨rfl, rfl⟩)
    | (go_at_call 108; refine (markedKeys_nil _).mono ?_; rintro e w' ⟨rfl, rfl⟩)
    | (go_at_call 109; refine (markedSessions_nil _).mono ?_; rintro e w' ⟨rfl, rfl⟩)
    | (go_at_call 110; refine (markedIds_nil _).mono ?_; rintro e w' ⟨rfl, rfl⟩)
    | (go_at_call 111; refine (markedGrams_nil _).mono ?_; rintro e w' ⟨rfl, rfl⟩)
    | (go_at_call 112; refine (markedSays_nil _).mono ?_; rintro e w' ⟨rfl, rfl⟩)
    | (go_at_call 113; refine (markedItems_nil _).mono ?_; rintro e w' ⟨rfl, rfl⟩)
    | (go_at_call 114; refine (markedLines_nil _).mono ?_; rintro e w' ⟨rfl, rfl⟩)
    | (go_at_call 115; refine (markedSeats_nil _).mono ?_; rintro e w' ⟨rfl, rfl⟩)
    | (go_at_call 116; refine (markedEvents_nil _).mono ?_; rintro e w' ⟨rfl, rfl⟩)
    | (go_at_call 117; refine (markedSteps_nil _).mono ?_; rintro e w' ⟨rfl, rfl⟩))
  go_ret
  exact ⟨rfl, H0.out⟩
end Go.Proofs.YthkfgjmifoeljaaGreat
