/- WRITTEN by wip/gen/bkapart.py. The walk of Apart at a book that holds Avps and nothing else. -/
import Derived.Test.YtfbdbebahpemhaaGreatQBkNil
import Derived.Test.YtfbdbebahpemhaaGreatQBkAvpsD
namespace Go.Proofs.YtfbdbebahpemhaaGreat
open Go.RowKit
set_option linter.unusedSimpArgs false
set_option linter.unusedVariables false
set_option maxRecDepth 100000

/-- A book that holds these kinds alone. -/
def BkA (X : List Nat) (w0 w : World) (g : Nat) (RAvps : List (Bit Av)) : Prop :=
  ∃ cs, Blk w g 45 cs ∧ (w0.heap.size ≤ g ∧ g ∉ X) ∧ (∀ j, j < 36 → j ∉ ([12, 13] : List Nat) → cs[j]? = some (.slice none 0 0)) ∧ KindAt bkCAvps 59 22 5 6 X w0 w cs RAvps
theorem BkA.upd {X : List Nat} {w0 w w' : World} {g : Nat} {RAvps : List (Bit Av)} (h : BkA X w0 w g RAvps) (hu : Upd [] w w') : BkA X w0 w' g RAvps := by
  obtain ⟨cs, hb, hg, hz, hAvps⟩ := h
  exact ⟨cs, hb.upd hu (by simp), hg, hz, hAvps.upd hu⟩
/-- What the book keeps off may be written, if it was made since w0. -/
theorem BkA.updX {X : List Nat} {w0 w w' : World} {g : Nat} {RAvps : List (Bit Av)} (h : BkA X w0 w g RAvps) (hu : Upd X w w') (hX : ∀ k ∈ X, w0.heap.size ≤ k) : BkA X w0 w' g RAvps := by
  obtain ⟨cs, hb, hg, hz, hAvps⟩ := h
  exact ⟨cs, hb.upd hu hg.2, hg, hz, hAvps.updX hu hX⟩
/-- What is new may join what the book keeps off. -/
theorem BkA.off {X X' : List Nat} {w0 w : World} {g : Nat} {RAvps : List (Bit Av)} (h : BkA X w0 w g RAvps) (hX : ∀ k ∈ X', k ∈ X ∨ w.heap.size ≤ k) : BkA X' w0 w g RAvps := by
  obtain ⟨cs, hb, hg, hz, hAvps⟩ := h
  exact ⟨cs, hb, ⟨hg.1, fun hm => (hX _ hm).elim hg.2 (fun h2 => by have := hb.lt; omega)⟩, hz, hAvps.off hX⟩
/-- A world of which nothing of the book has turned. -/
theorem BkA.updT {X : List Nat} {T : List TypeId} {w0 w w' : World} {g : Nat} {RAvps : List (Bit Av)} (h : BkA X w0 w g RAvps) (hu : UpdT T w0.heap.size w w') (hT : ∀ t ∈ T, t ∉ ([45, 59, 22] : List TypeId)) : BkA X w0 w' g RAvps := by
  obtain ⟨cs, hb, hg, hz, hAvps⟩ := h
  have n1 : 45 ∉ T := fun hm => hT _ hm (by simp)
  have p0 : 59 ∉ T := fun hm => hT _ hm (by simp)
  have q0 : 22 ∉ T := fun hm => hT _ hm (by simp)
  exact ⟨cs, hb.updT hu n1, hg, hz, hAvps.updT hu p0 q0⟩
theorem BkA.zero {X : List Nat} (w0 w : World) (h0 : Upd [] w0 w) (hX : ∀ k ∈ X, k < w.heap.size) {cs : Array Value} (hc : cs = #[.slice none 0 0, .slice none 0 0, .slice none 0 0, .slice none 0 0, .slice none 0 0, .slice none 0 0, .slice none 0 0, .slice none 0 0, .slice none 0 0, .slice none 0 0, .slice none 0 0, .slice none 0 0, .slice none 0 0, .slice none 0 0, .slice none 0 0, .slice none 0 0, .slice none 0 0, .slice none 0 0, .slice none 0 0, .slice none 0 0, .slice none 0 0, .slice none 0 0, .slice none 0 0, .slice none 0 0, .slice none 0 0, .slice none 0 0, .slice none 0 0, .slice none 0 0, .slice none 0 0, .slice none 0 0, .slice none 0 0, .slice none 0 0, .slice none 0 0, .slice none 0 0, .slice none 0 0, .slice none 0 0]) : BkA X w0 (w.alloc (.cells cs 45)) w.heap.size [] := by
  subst hc
  refine ⟨_, Blk.new _ _ _, ⟨h0.size, fun hm => Nat.lt_irrefl _ (hX _ hm)⟩, fun j hj _ => ?_, KindAt.zero w0 _ (h0.alloc _) rfl rfl⟩
  rcases j with _ | _ | _ | _ | _ | _ | _ | _ | _ | _ | _ | _ | _ | _ | _ | _ | _ | _ | _ | _ | _ | _ | _ | _ | _ | _ | _ | _ | _ | _ | _ | _ | _ | _ | _ | _ | j <;> first | rfl | omega

theorem BkA.ups {X : List Nat} {w0 w : World} {g : Nat} {RAvps : List (Bit Av)} (h : BkA X w0 w g RAvps) : Upd [] w0 w := by
  obtain ⟨cs, hb, hg, hz, hAvps⟩ := h
  obtain ⟨ao, cap, oo, aw, cw, ow, C, a1, a2, a3, a4, a5, a6, a7, a8, a9, r⟩ := hAvps
  exact a9.upd
/-- What a list put into the book leaves. -/
def BkAAddAvps (X : List Nat) (w0 w : World) (g : Nat) (RAvps : List (Bit Av)) (b : Bit Av) (e : Ending) (w' : World) : Prop := e = .returned (.tuple #[]) ∧ BkA X w0 w' g (if RAvps.length < 250 then RAvps ++ [b] else RAvps) ∧ UpdT [45, 22] w0.heap.size w w'
theorem BkA.addAvps {X : List Nat} {w0 w : World} {g : Nat} {RAvps : List (Bit Av)} (h : BkA X w0 w g RAvps) (b : Bit Av) (hb : Held bkCAvps 59 5 w b) (hl : b.l.length ≤ 100000) (hlo : ∀ k ∈ b.own, w0.heap.size ≤ k) (hnew : ∀ d ∈ RAvps, ∀ k ∈ d.own, k ∉ b.own) (hX : ∀ k ∈ X, k < w.heap.size) (hbX : ∀ k ∈ b.own, k ∉ X) :
    Calls Tryz.prog 19 #[.pointer (some ⟨g, 0, none⟩), b.v] w (BkAAddAvps X w0 w g RAvps b) := by
  obtain ⟨cs, hbk, hg, hz, hAvps⟩ := h
  refine (bkAddAvps w0 w b hbk hg.1 hAvps hb hl hlo hnew hX hbX).mono ?_
  rintro e w' ⟨he, cs', hb2, hk2, hs2, hu2⟩
  refine ⟨he, ⟨cs', hb2, hg, fun j hj hn => ?_, hk2⟩, hu2⟩
  rw [hs2 j (fun e => hn (by simp [e])) (fun e => hn (by simp [e]))]
  exact hz j hj hn
theorem BkA.ltAvps {X : List Nat} {w0 w : World} {g : Nat} {RAvps : List (Bit Av)} (h : BkA X w0 w g RAvps) : ∀ d ∈ RAvps, ∀ k ∈ d.own, k < w.heap.size := by
  obtain ⟨cs, hbk, hg, hz, hAvps⟩ := h
  exact hAvps.lt
set_option maxHeartbeats 40000000 in
theorem apartA_any {X : List Nat} {w0 w : World} {g : Nat} {RAvps : List (Bit Av)} (h : BkA X w0 w g RAvps) :
    Calls Tryz.prog 20 #[.pointer (some ⟨g, 0, none⟩)] w fun e w' => e = .returned (.bool true) ∧ Upd [] w0 w' := by
  obtain ⟨cs, hb, hg, hz, hAvps⟩ := h
  have HB := Lib.hid hb
  have HZ := Lib.hid hz
  have HKAvps := Lib.hid hAvps
  have H0 : Hid (Upd [] w0 w) := by
    obtain ⟨ao, cap, oo, aw, cw, ow, C, a1, a2, a3, a4, a5, a6, a7, a8, a9, r⟩ := hAvps
    exact a9.upd
  clear hb hz hAvps
  go_enter Tryz.func20, Tryz.ntmps20
  try simp only [List.append_eq, List.cons_append, List.nil_append]
  go_wp2_with (first
    | (go_at_call 41; refine (stillTexts_nil HB.out (HZ.out 0 (by decide) (by decide))).mono ?_; rintro e w' ⟨rfl, rfl⟩)
    | (go_at_call 42; refine (stillInts_nil HB.out (HZ.out 2 (by decide) (by decide))).mono ?_; rintro e w' ⟨rfl, rfl⟩)
    | (go_at_call 43; refine (stillEthers_nil HB.out (HZ.out 4 (by decide) (by decide))).mono ?_; rintro e w' ⟨rfl, rfl⟩)
    | (go_at_call 44; refine (stillTags_nil HB.out (HZ.out 6 (by decide) (by decide))).mono ?_; rintro e w' ⟨rfl, rfl⟩)
    | (go_at_call 45; refine (stillOptions_nil HB.out (HZ.out 8 (by decide) (by decide))).mono ?_; rintro e w' ⟨rfl, rfl⟩)
    | (go_at_call 46; refine (stillPackets_nil HB.out (HZ.out 10 (by decide) (by decide))).mono ?_; rintro e w' ⟨rfl, rfl⟩)
    | (go_at_call 47; refine (bkStillAvps w0 _ HB.out HKAvps.out).mono ?_; rintro e w1 ⟨rfl, hu1⟩; have HB := Lib.hid (HB.out.upd hu1 (by simp)); have H0 := Lib.hid (H0.out.trans hu1); have HKAvps := Lib.hid (HKAvps.out.upd hu1); clear hu1)
    | (go_at_call 48; refine (stillCtls_nil HB.out (HZ.out 14 (by decide) (by decide))).mono ?_; rintro e w' ⟨rfl, rfl⟩)
    | (go_at_call 49; refine (stillKeys_nil HB.out (HZ.out 16 (by decide) (by decide))).mono ?_; rintro e w' ⟨rfl, rfl⟩)
    | (go_at_call 50; refine (stillSessions_nil HB.out (HZ.out 18 (by decide) (by decide))).mono ?_; rintro e w' ⟨rfl, rfl⟩)
    | (go_at_call 51; refine (stillIds_nil HB.out (HZ.out 20 (by decide) (by decide))).mono ?_; rintro e w' ⟨rfl, rfl⟩)
    | (go_at_call 52; refine (stillGrams_nil HB.out (HZ.out 22 (by decide) (by decide))).mono ?_; rintro e w' ⟨rfl, rfl⟩)
    | (go_at_call 53; refine (stillSays_nil HB.out (HZ.out 24 (by decide) (by decide))).mono ?_; rintro e w' ⟨rfl, rfl⟩)
    | (go_at_call 54; refine (stillItems_nil HB.out (HZ.out 26 (by decide) (by decide))).mono ?_; rintro e w' ⟨rfl, rfl⟩)
    | (go_at_call 55; refine (stillLines_nil HB.out (HZ.out 28 (by decide) (by decide))).mono ?_; rintro e w' ⟨rfl, rfl⟩)
    | (go_at_call 56; refine (stillSeats_nil HB.out (HZ.out 30 (by decide) (by decide))).mono ?_; rintro e w' ⟨rfl, rfl⟩)
    | (go_at_call 57; refine (stillEvents_nil HB.out (HZ.out 32 (by decide) (by decide))).mono ?_; rintro e w' ⟨rfl, rfl⟩)
    | (go_at_call 58; refine (stillSteps_nil HB.out (HZ.out 34 (by decide) (by decide))).mono ?_; rintro e w' ⟨rfl, rfl⟩)
    | (go_at_call 59; refine (putPackets_nil HB.out (HZ.out 10 (by decide) (by decide))).mono ?_; rintro e w' ⟨rfl, rfl⟩)
    | (go_at_call 60; refine (putCtls_nil HB.out (HZ.out 14 (by decide) (by decide))).mono ?_; rintro e w' ⟨rfl, rfl⟩)
    | (go_at_call 61; refine (putSays_nil HB.out (HZ.out 24 (by decide) (by decide))).mono ?_; rintro e w' ⟨rfl, rfl⟩)
    | (go_at_call 62; refine (putSteps_nil HB.out (HZ.out 34 (by decide) (by decide))).mono ?_; rintro e w' ⟨rfl, rfl⟩)
    | (go_at_call 63; refine (putTexts_nil HB.out (HZ.out 0 (by decide) (by decide))).mono ?_; rintro e w' ⟨rfl, rfl⟩)
    | (go_at_call 64; refine (putInts_nil HB.out (HZ.out 2 (by decide) (by decide))).mono ?_; rintro e w' ⟨rfl, rfl⟩)
    | (go_at_call 65; refine (putEthers_nil HB.out (HZ.out 4 (by decide) (by decide))).mono ?_; rintro e w' ⟨rfl, rfl⟩)
    | (go_at_call 66; refine (putTags_nil HB.out (HZ.out 6 (by decide) (by decide))).mono ?_; rintro e w' ⟨rfl, rfl⟩)
    | (go_at_call 67; refine (putOptions_nil HB.out (HZ.out 8 (by decide) (by decide))).mono ?_; rintro e w' ⟨rfl, rfl⟩)
    | (go_at_call 68; refine (bkPutAvps w0 _ HB.out HKAvps.out).mono ?_; rintro e w1 ⟨rfl, hp1, hu1⟩; have HB := Lib.hid (HB.out.updT hu1 (by decide)); have H0 := Lib.hid (hu1.below H0.out); have HPAvps := Lib.hid hp1; clear HKAvps hp1; clear hu1)
    | (go_at_call 69; refine (putKeys_nil HB.out (HZ.out 16 (by decide) (by decide))).mono ?_; rintro e w' ⟨rfl, rfl⟩)
    | (go_at_call 70; refine (putSessions_nil HB.out (HZ.out 18 (by decide) (by decide))).mono ?_; rintro e w' ⟨rfl, rfl⟩)
    | (go_at_call 71; refine (putIds_nil HB.out (HZ.out 20 (by decide) (by decide))).mono ?_; rintro e w' ⟨rfl, rfl⟩)
    | (go_at_call 72; refine (putGrams_nil HB.out (HZ.out 22 (by decide) (by decide))).mono ?_; rintro e w' ⟨rfl, rfl⟩)
    | (go_at_call 73; refine (putItems_nil HB.out (HZ.out 26 (by decide) (by decide))).mono ?_; rintro e w' ⟨rfl, rfl⟩)
    | (go_at_call 74; refine (putLines_nil HB.out (HZ.out 28 (by decide) (by decide))).mono ?_; rintro e w' ⟨rfl, rfl⟩)
    | (go_at_call 75; refine (putSeats_nil HB.out (HZ.out 30 (by decide) (by decide))).mono ?_; rintro e w' ⟨rfl, rfl⟩)
    | (go_at_call 76; refine (putEvents_nil HB.out (HZ.out 32 (by decide) (by decide))).mono ?_; rintro e w' ⟨rfl, rfl⟩)
    | (go_at_call 77; refine (growTexts_nil HB.out (HZ.out 0 (by decide) (by decide))).mono ?_; rintro e w' ⟨rfl, rfl⟩)
    | (go_at_call 78; refine (growInts_nil HB.out (HZ.out 2 (by decide) (by decide))).mono ?_; rintro e w' ⟨rfl, rfl⟩)
    | (go_at_call 79; refine (growEthers_nil HB.out (HZ.out 4 (by decide) (by decide))).mono ?_; rintro e w' ⟨rfl, rfl⟩)
    | (go_at_call 80; refine (growTags_nil HB.out (HZ.out 6 (by decide) (by decide))).mono ?_; rintro e w' ⟨rfl, rfl⟩)
    | (go_at_call 81; refine (growOptions_nil HB.out (HZ.out 8 (by decide) (by decide))).mono ?_; rintro e w' ⟨rfl, rfl⟩)
    | (go_at_call 82; refine (growPackets_nil HB.out (HZ.out 10 (by decide) (by decide))).mono ?_; rintro e w' ⟨rfl, rfl⟩)
    | (go_at_call 83; refine (bkGrowAvps w0 _ HB.out HPAvps.out).mono ?_; rintro e w1 ⟨vAvps, uAvps, rfl, hv1, hc1, hm1, hu1⟩; have HB := Lib.hid (HB.out.updT hu1 (by decide)); have H0 := Lib.hid (hu1.below H0.out); have HVAvps := Lib.hid hv1; have HMAvps := Lib.hid hm1; have HCAvps := Lib.hid hc1; clear HPAvps hv1 hm1 hc1; clear hu1)
    | (go_at_call 84; refine (growCtls_nil HB.out (HZ.out 14 (by decide) (by decide))).mono ?_; rintro e w' ⟨rfl, rfl⟩)
    | (go_at_call 85; refine (growKeys_nil HB.out (HZ.out 16 (by decide) (by decide))).mono ?_; rintro e w' ⟨rfl, rfl⟩)
    | (go_at_call 86; refine (growSessions_nil HB.out (HZ.out 18 (by decide) (by decide))).mono ?_; rintro e w' ⟨rfl, rfl⟩)
    | (go_at_call 87; refine (growIds_nil HB.out (HZ.out 20 (by decide) (by decide))).mono ?_; rintro e w' ⟨rfl, rfl⟩)
    | (go_at_call 88; refine (growGrams_nil HB.out (HZ.out 22 (by decide) (by decide))).mono ?_; rintro e w' ⟨rfl, rfl⟩)
    | (go_at_call 89; refine (growSays_nil HB.out (HZ.out 24 (by decide) (by decide))).mono ?_; rintro e w' ⟨rfl, rfl⟩)
    | (go_at_call 90; refine (growItems_nil HB.out (HZ.out 26 (by decide) (by decide))).mono ?_; rintro e w' ⟨rfl, rfl⟩)
    | (go_at_call 91; refine (growLines_nil HB.out (HZ.out 28 (by decide) (by decide))).mono ?_; rintro e w' ⟨rfl, rfl⟩)
    | (go_at_call 92; refine (growSeats_nil HB.out (HZ.out 30 (by decide) (by decide))).mono ?_; rintro e w' ⟨rfl, rfl⟩)
    | (go_at_call 93; refine (growEvents_nil HB.out (HZ.out 32 (by decide) (by decide))).mono ?_; rintro e w' ⟨rfl, rfl⟩)
    | (go_at_call 94; refine (growSteps_nil HB.out (HZ.out 34 (by decide) (by decide))).mono ?_; rintro e w' ⟨rfl, rfl⟩; have b0 := HB.out.cell 0; rw [HZ.out 0 (by decide) (by decide)] at b0; have b1 := HB.out.cell 2; rw [HZ.out 2 (by decide) (by decide)] at b1; have b2 := HB.out.cell 4; rw [HZ.out 4 (by decide) (by decide)] at b2; have b3 := HB.out.cell 6; rw [HZ.out 6 (by decide) (by decide)] at b3; have b4 := HB.out.cell 8; rw [HZ.out 8 (by decide) (by decide)] at b4; have b5 := HB.out.cell 10; rw [HZ.out 10 (by decide) (by decide)] at b5; have b6 := HB.out.cell 12; rw [HCAvps.out] at b6; have b7 := HB.out.cell 14; rw [HZ.out 14 (by decide) (by decide)] at b7; have b8 := HB.out.cell 16; rw [HZ.out 16 (by decide) (by decide)] at b8; have b9 := HB.out.cell 18; rw [HZ.out 18 (by decide) (by decide)] at b9; have b10 := HB.out.cell 20; rw [HZ.out 20 (by decide) (by decide)] at b10; have b11 := HB.out.cell 22; rw [HZ.out 22 (by decide) (by decide)] at b11; have b12 := HB.out.cell 24; rw [HZ.out 24 (by decide) (by decide)] at b12; have b13 := HB.out.cell 26; rw [HZ.out 26 (by decide) (by decide)] at b13; have b14 := HB.out.cell 28; rw [HZ.out 28 (by decide) (by decide)] at b14; have b15 := HB.out.cell 30; rw [HZ.out 30 (by decide) (by decide)] at b15; have b16 := HB.out.cell 32; rw [HZ.out 32 (by decide) (by decide)] at b16; have b17 := HB.out.cell 34; rw [HZ.out 34 (by decide) (by decide)] at b17)
    | (go_at_call 95; refine (markedTexts_nil _).mono ?_; rintro e w' ⟨rfl, rfl⟩)
    | (go_at_call 96; refine (markedInts_nil _).mono ?_; rintro e w' ⟨rfl, rfl⟩)
    | (go_at_call 97; refine (markedEthers_nil _).mono ?_; rintro e w' ⟨rfl, rfl⟩)
    | (go_at_call 98; refine (markedTags_nil _).mono ?_; rintro e w' ⟨rfl, rfl⟩)
    | (go_at_call 99; refine (markedOptions_nil _).mono ?_; rintro e w' ⟨rfl, rfl⟩)
    | (go_at_call 100; refine (markedPackets_nil _).mono ?_; rintro e w' ⟨rfl, rfl⟩)
    | (go_at_call 101; (first | (with_reducible refine (bkMarkedAvps _ _ HVAvps.out).mono ?_) | (with_reducible refine (bkMarkedAvps _ _ HMAvps.out).mono ?_)); rintro e w1 ⟨rfl, hu1⟩; have HB := Lib.hid (HB.out.upd hu1 (by simp)); have H0 := Lib.hid (H0.out.trans hu1); have HVAvps := Lib.hid (HVAvps.out.updT (T := []) (lo := 0) (.of_nil hu1) (by simp) (by simp)); have HMAvps := Lib.hid (HMAvps.out.updT (T := []) (lo := 0) (.of_nil hu1) (by simp) (by simp)); clear hu1; clear b0; have b0 := HB.out.cell 0; rw [HZ.out 0 (by decide) (by decide)] at b0; clear b1; have b1 := HB.out.cell 2; rw [HZ.out 2 (by decide) (by decide)] at b1; clear b2; have b2 := HB.out.cell 4; rw [HZ.out 4 (by decide) (by decide)] at b2; clear b3; have b3 := HB.out.cell 6; rw [HZ.out 6 (by decide) (by decide)] at b3; clear b4; have b4 := HB.out.cell 8; rw [HZ.out 8 (by decide) (by decide)] at b4; clear b5; have b5 := HB.out.cell 10; rw [HZ.out 10 (by decide) (by decide)] at b5; clear b6; have b6 := HB.out.cell 12; rw [HCAvps.out] at b6; clear b7; have b7 := HB.out.cell 14; rw [HZ.out 14 (by decide) (by decide)] at b7; clear b8; have b8 := HB.out.cell 16; rw [HZ.out 16 (by decide) (by decide)] at b8; clear b9; have b9 := HB.out.cell 18; rw [HZ.out 18 (by decide) (by decide)] at b9; clear b10; have b10 := HB.out.cell 20; rw [HZ.out 20 (by decide) (by decide)] at b10; clear b11; have b11 := HB.out.cell 22; rw [HZ.out 22 (by decide) (by decide)] at b11; clear b12; have b12 := HB.out.cell 24; rw [HZ.out 24 (by decide) (by decide)] at b12; clear b13; have b13 := HB.out.cell 26; rw [HZ.out 26 (by decide) (by decide)] at b13; clear b14; have b14 := HB.out.cell 28; rw [HZ.out 28 (by decide) (by decide)] at b14; clear b15; have b15 := HB.out.cell 30; rw [HZ.out 30 (by decide) (by decide)] at b15; clear b16; have b16 := HB.out.cell 32; rw [HZ.out 32 (by decide) (by decide)] at b16; clear b17; have b17 := HB.out.cell 34; rw [HZ.out 34 (by decide) (by decide)] at b17)
    | (go_at_call 102; refine (markedCtls_nil _).mono ?_; rintro e w' ⟨rfl, rfl⟩)
    | (go_at_call 103; refine (markedKeys_nil _).mono ?_; rintro e w' ⟨rfl, rfl⟩)
    | (go_at_call 104; refine (markedSessions_nil _).mono ?_; rintro e w' ⟨rfl, rfl⟩)
    | (go_at_call 105; refine (markedIds_nil _).mono ?_; rintro e w' ⟨rfl, rfl⟩)
    | (go_at_call 106; refine (markedGrams_nil _).mono ?_; rintro e w' ⟨rfl, rfl⟩)
    | (go_at_call 107; refine (markedSays_nil _).mono ?_; rintro e w' ⟨rfl, rfl⟩)
    | (go_at_call 108; refine (markedItems_nil _).mono ?_; rintro e w' ⟨rfl, rfl⟩)
    | (go_at_call 109; refine (markedLines_nil _).mono ?_; rintro e w' ⟨rfl, rfl⟩)
    | (go_at_call 110; refine (markedSeats_nil _).mono ?_; rintro e w' ⟨rfl, rfl⟩)
    | (go_at_call 111; refine (markedEvents_nil _).mono ?_; rintro e w' ⟨rfl, rfl⟩)
    | (go_at_call 112; refine (markedSteps_nil _).mono ?_; rintro e w' ⟨rfl, rfl⟩))
  go_ret
  exact ⟨rfl, H0.out⟩
end Go.Proofs.YtfbdbebahpemhaaGreat
