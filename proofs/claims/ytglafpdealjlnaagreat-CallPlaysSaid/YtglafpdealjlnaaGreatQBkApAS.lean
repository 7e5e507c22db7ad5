/- WRITTEN by wip/gen/bkapart.py. The walk of Apart at a book that holds Avps and Says and nothing else. -/
import Derived.Test.YtglafpdealjlnaaGreatQBkNil
import Derived.Test.YtglafpdealjlnaaGreatQBkAvpsD
import Derived.Test.YtglafpdealjlnaaGreatQBkSaysD
namespace Go.Proofs.YtglafpdealjlnaaGreat
open Go.RowKit
set_option linter.unusedSimpArgs false
set_option linter.unusedVariables false
set_option maxRecDepth 100000

/-- A book that holds these kinds alone. -/
def BkAS (X : List Nat) (w0 w : World) (g : Nat) (RAvps : List (Bit Av)) (RSays : List (Bit SayR)) : Prop :=
  ∃ cs, Blk w g 49 cs ∧ (w0.heap.size ≤ g ∧ g ∉ X) ∧ (∀ j, j < 36 → j ∉ ([12, 13, 24, 25] : List Nat) → cs[j]? = some (.slice none 0 0)) ∧ KindAt bkCAvps 85 22 5 6 X w0 w cs RAvps ∧ KindAtN RelSays bkCSays 191 81 2 12 X w0 w cs RSays
theorem BkAS.upd {X : List Nat} {w0 w w' : World} {g : Nat} {RAvps : List (Bit Av)} {RSays : List (Bit SayR)} (h : BkAS X w0 w g RAvps RSays) (hu : Upd [] w w') : BkAS X w0 w' g RAvps RSays := by
  obtain ⟨cs, hb, hg, hz, hAvps, hSays⟩ := h
  exact ⟨cs, hb.upd hu (by simp), hg, hz, hAvps.upd hu, hSays.upd relSays_lasts hu⟩
/-- What is new may join what the book keeps off. -/
theorem BkAS.off {X X' : List Nat} {w0 w : World} {g : Nat} {RAvps : List (Bit Av)} {RSays : List (Bit SayR)} (h : BkAS X w0 w g RAvps RSays) (hX : ∀ k ∈ X', k ∈ X ∨ w.heap.size ≤ k) : BkAS X' w0 w g RAvps RSays := by
  obtain ⟨cs, hb, hg, hz, hAvps, hSays⟩ := h
  exact ⟨cs, hb, ⟨hg.1, fun hm => (hX _ hm).elim hg.2 (fun h2 => by have := hb.lt; omega)⟩, hz, hAvps.off hX, hSays.off hX⟩
/-- A world of which nothing of the book has turned. -/
theorem BkAS.updT {X : List Nat} {T : List TypeId} {w0 w w' : World} {g : Nat} {RAvps : List (Bit Av)} {RSays : List (Bit SayR)} (h : BkAS X w0 w g RAvps RSays) (hu : UpdT T w0.heap.size w w') (hT : ∀ t ∈ T, t ∉ ([49, 85, 22, 191, 81, 85] : List TypeId)) : BkAS X w0 w' g RAvps RSays := by
  obtain ⟨cs, hb, hg, hz, hAvps, hSays⟩ := h
  have n1 : 49 ∉ T := fun hm => hT _ hm (by simp)
  have p0 : 85 ∉ T := fun hm => hT _ hm (by simp)
  have q0 : 22 ∉ T := fun hm => hT _ hm (by simp)
  have p1 : 191 ∉ T := fun hm => hT _ hm (by simp)
  have q1 : 81 ∉ T := fun hm => hT _ hm (by simp)
  have nav : 85 ∉ T := fun hm => hT _ hm (by simp)
  exact ⟨cs, hb.updT hu n1, hg, hz, hAvps.updT hu p0 q0, hSays.updT relSays_lasts hu p1 q1 nav⟩
theorem BkAS.zero {X : List Nat} (w0 w : World) (h0 : Upd [] w0 w) (hX : ∀ k ∈ X, k < w.heap.size) {cs : Array Value} (hc : cs = #[.slice none 0 0, .slice none 0 0, .slice none 0 0, .slice none 0 0, .slice none 0 0, .slice none 0 0, .slice none 0 0, .slice none 0 0, .slice none 0 0, .slice none 0 0, .slice none 0 0, .slice none 0 0, .slice none 0 0, .slice none 0 0, .slice none 0 0, .slice none 0 0, .slice none 0 0, .slice none 0 0, .slice none 0 0, .slice none 0 0, .slice none 0 0, .slice none 0 0, .slice none 0 0, .slice none 0 0, .slice none 0 0, .slice none 0 0, .slice none 0 0, .slice none 0 0, .slice none 0 0, .slice none 0 0, .slice none 0 0, .slice none 0 0, .slice none 0 0, .slice none 0 0, .slice none 0 0, .slice none 0 0]) : BkAS X w0 (w.alloc (.cells cs 49)) w.heap.size [] [] := by
  subst hc
  refine ⟨_, Blk.new _ _ _, ⟨h0.size, fun hm => Nat.lt_irrefl _ (hX _ hm)⟩, fun j hj _ => ?_, KindAt.zero w0 _ (h0.alloc _) rfl rfl, KindAtN.zero w0 _ (h0.alloc _) rfl rfl⟩
  rcases j with _ | _ | _ | _ | _ | _ | _ | _ | _ | _ | _ | _ | _ | _ | _ | _ | _ | _ | _ | _ | _ | _ | _ | _ | _ | _ | _ | _ | _ | _ | _ | _ | _ | _ | _ | _ | j <;> first | rfl | omega

theorem BkAS.ups {X : List Nat} {w0 w : World} {g : Nat} {RAvps : List (Bit Av)} {RSays : List (Bit SayR)} (h : BkAS X w0 w g RAvps RSays) : Upd [] w0 w := by
  obtain ⟨cs, hb, hg, hz, hAvps, hSays⟩ := h
  obtain ⟨ao, cap, oo, aw, cw, ow, C, a1, a2, a3, a4, a5, a6, a7, a8, a9, r⟩ := hAvps
  exact a9.upd
/-- What a list put into the book leaves. -/
def BkASAddAvps (X : List Nat) (w0 w : World) (g : Nat) (RAvps : List (Bit Av)) (RSays : List (Bit SayR)) (b : Bit Av) (e : Ending) (w' : World) : Prop := e = .returned (.tuple #[]) ∧ BkAS X w0 w' g (if RAvps.length < 250 then RAvps ++ [b] else RAvps) RSays ∧ UpdT [49, 22] w0.heap.size w w'
theorem BkAS.addAvps {X : List Nat} {w0 w : World} {g : Nat} {RAvps : List (Bit Av)} {RSays : List (Bit SayR)} (h : BkAS X w0 w g RAvps RSays) (b : Bit Av) (hb : Held bkCAvps 85 5 w b) (hl : b.l.length ≤ 100000) (hlo : ∀ k ∈ b.own, w0.heap.size ≤ k) (hnew : ∀ d ∈ RAvps, ∀ k ∈ d.own, k ∉ b.own) (hX : ∀ k ∈ X, k < w.heap.size) (hbX : ∀ k ∈ b.own, k ∉ X) :
    Calls Tryz.prog 25 #[.pointer (some ⟨g, 0, none⟩), b.v] w (BkASAddAvps X w0 w g RAvps RSays b) := by
  obtain ⟨cs, hbk, hg, hz, hAvps, hSays⟩ := h
  refine (bkAddAvps w0 w b hbk hg.1 hAvps hb hl hlo hnew hX hbX).mono ?_
  rintro e w' ⟨he, cs', hb2, hk2, hs2, hu2⟩
  refine ⟨he, ⟨cs', hb2, hg, fun j hj hn => ?_, hk2, (hSays.updT relSays_lasts hu2 (by decide) (by decide) (by decide)).cells (hs2 _ (by decide) (by decide)) (hs2 _ (by decide) (by decide))⟩, hu2⟩
  rw [hs2 j (fun e => hn (by simp [e])) (fun e => hn (by simp [e]))]
  exact hz j hj hn
theorem BkAS.ltAvps {X : List Nat} {w0 w : World} {g : Nat} {RAvps : List (Bit Av)} {RSays : List (Bit SayR)} (h : BkAS X w0 w g RAvps RSays) : ∀ d ∈ RAvps, ∀ k ∈ d.own, k < w.heap.size := by
  obtain ⟨cs, hbk, hg, hz, hAvps, hSays⟩ := h
  exact hAvps.lt
/-- What a list put into the book leaves. -/
def BkASAddSays (X : List Nat) (w0 w : World) (g : Nat) (RAvps : List (Bit Av)) (RSays : List (Bit SayR)) (b : Bit SayR) (e : Ending) (w' : World) : Prop := e = .returned (.tuple #[]) ∧ BkAS X w0 w' g RAvps (if RSays.length < 250 then RSays ++ [b] else RSays) ∧ UpdT [49, 81] w0.heap.size w w'
theorem BkAS.addSays {X : List Nat} {w0 w : World} {g : Nat} {RAvps : List (Bit Av)} {RSays : List (Bit SayR)} (h : BkAS X w0 w g RAvps RSays) (b : Bit SayR) (hb : Held bkCSays 191 2 w b) (hl : b.l.length ≤ 100000) (hlo : ∀ k ∈ b.own, w0.heap.size ≤ k) (hnew : ∀ d ∈ RSays, ∀ k ∈ d.own, k ∉ b.own) (hX : ∀ k ∈ X, k < w.heap.size) (hd : ∀ x ∈ b.l, ∃ L, SlAt 85 w x.sl L ∧ L.length ≤ 1000000) (hbX : ∀ k ∈ b.own, k ∉ X) :
    Calls Tryz.prog 190 #[.pointer (some ⟨g, 0, none⟩), b.v] w (BkASAddSays X w0 w g RAvps RSays b) := by
  obtain ⟨cs, hbk, hg, hz, hAvps, hSays⟩ := h
  refine (bkAddSays w0 w b hbk hg.1 hSays hb hl hlo hnew hX hd hbX).mono ?_
  rintro e w' ⟨he, cs', hb2, hk2, hs2, hu2⟩
  refine ⟨he, ⟨cs', hb2, hg, fun j hj hn => ?_, (hAvps.updT hu2 (by decide) (by decide)).cells (hs2 _ (by decide) (by decide)) (hs2 _ (by decide) (by decide)), hk2⟩, hu2⟩
  rw [hs2 j (fun e => hn (by simp [e])) (fun e => hn (by simp [e]))]
  exact hz j hj hn
theorem BkAS.ltSays {X : List Nat} {w0 w : World} {g : Nat} {RAvps : List (Bit Av)} {RSays : List (Bit SayR)} (h : BkAS X w0 w g RAvps RSays) : ∀ d ∈ RSays, ∀ k ∈ d.own, k < w.heap.size := by
  obtain ⟨cs, hbk, hg, hz, hAvps, hSays⟩ := h
  exact hSays.lt
set_option maxHeartbeats 40000000 in
theorem apartAS_all {X : List Nat} {w0 w : World} {g : Nat} {RAvps : List (Bit Av)} {RSays : List (Bit SayR)} (h : BkAS X w0 w g RAvps RSays) :
    Calls Tryz.prog 31 #[.pointer (some ⟨g, 0, none⟩)] w fun e w' => e = .returned (.bool true) ∧ Upd [] w0 w' ∧ UpdT [85, 191] w0.heap.size w w' := by
  obtain ⟨cs, hb, hg, hz, hAvps, hSays⟩ := h
  have HB := Lib.hid hb
  have HZ := Lib.hid hz
  have HT : Hid (UpdT [85, 191] w0.heap.size w w) := UpdT.refl _ _ _
  have HKAvps := Lib.hid hAvps
  have HKSays := Lib.hid hSays
  have H0 : Hid (Upd [] w0 w) := by
    obtain ⟨ao, cap, oo, aw, cw, ow, C, a1, a2, a3, a4, a5, a6, a7, a8, a9, r⟩ := hAvps
    exact a9.upd
  clear hb hz hAvps hSays
  go_enter Tryz.func31, Tryz.ntmps31
  try simp only [List.append_eq, List.cons_append, List.nil_append]
  go_wp2_with (first
    | (go_at_call 102; refine (stillTexts_nil HB.out (HZ.out 0 (by decide) (by decide))).mono ?_; rintro e w' ⟨rfl, rfl⟩)
    | (go_at_call 103; refine (stillInts_nil HB.out (HZ.out 2 (by decide) (by decide))).mono ?_; rintro e w' ⟨rfl, rfl⟩)
    | (go_at_call 104; refine (stillEthers_nil HB.out (HZ.out 4 (by decide) (by decide))).mono ?_; rintro e w' ⟨rfl, rfl⟩)
    | (go_at_call 105; refine (stillTags_nil HB.out (HZ.out 6 (by decide) (by decide))).mono ?_; rintro e w' ⟨rfl, rfl⟩)
    | (go_at_call 106; refine (stillOptions_nil HB.out (HZ.out 8 (by decide) (by decide))).mono ?_; rintro e w' ⟨rfl, rfl⟩)
    | (go_at_call 107; refine (stillPackets_nil HB.out (HZ.out 10 (by decide) (by decide))).mono ?_; rintro e w' ⟨rfl, rfl⟩)
    | (go_at_call 108; refine (bkStillAvps w0 _ HB.out HKAvps.out).mono ?_; rintro e w1 ⟨rfl, hu1⟩; have HB := Lib.hid (HB.out.upd hu1 (by simp)); have H0 := Lib.hid (H0.out.trans hu1); have HT := Lib.hid (HT.out.nil hu1); have HKAvps := Lib.hid (HKAvps.out.upd hu1); have HKSays := Lib.hid (HKSays.out.upd relSays_lasts hu1); clear hu1)
    | (go_at_call 109; refine (stillCtls_nil HB.out (HZ.out 14 (by decide) (by decide))).mono ?_; rintro e w' ⟨rfl, rfl⟩)
    | (go_at_call 110; refine (stillKeys_nil HB.out (HZ.out 16 (by decide) (by decide))).mono ?_; rintro e w' ⟨rfl, rfl⟩)
    | (go_at_call 111; refine (stillSessions_nil HB.out (HZ.out 18 (by decide) (by decide))).mono ?_; rintro e w' ⟨rfl, rfl⟩)
    | (go_at_call 112; refine (stillIds_nil HB.out (HZ.out 20 (by decide) (by decide))).mono ?_; rintro e w' ⟨rfl, rfl⟩)
    | (go_at_call 113; refine (stillGrams_nil HB.out (HZ.out 22 (by decide) (by decide))).mono ?_; rintro e w' ⟨rfl, rfl⟩)
    | (go_at_call 114; refine (bkStillSays w0 _ HB.out HKSays.out).mono ?_; rintro e w1 ⟨rfl, hu1⟩; have HB := Lib.hid (HB.out.upd hu1 (by simp)); have H0 := Lib.hid (H0.out.trans hu1); have HT := Lib.hid (HT.out.nil hu1); have HKAvps := Lib.hid (HKAvps.out.upd hu1); have HKSays := Lib.hid (HKSays.out.upd relSays_lasts hu1); clear hu1)
    | (go_at_call 115; refine (stillItems_nil HB.out (HZ.out 26 (by decide) (by decide))).mono ?_; rintro e w' ⟨rfl, rfl⟩)
    | (go_at_call 116; refine (stillLines_nil HB.out (HZ.out 28 (by decide) (by decide))).mono ?_; rintro e w' ⟨rfl, rfl⟩)
    | (go_at_call 117; refine (stillSeats_nil HB.out (HZ.out 30 (by decide) (by decide))).mono ?_; rintro e w' ⟨rfl, rfl⟩)
    | (go_at_call 118; refine (stillEvents_nil HB.out (HZ.out 32 (by decide) (by decide))).mono ?_; rintro e w' ⟨rfl, rfl⟩)
    | (go_at_call 119; refine (stillSteps_nil HB.out (HZ.out 34 (by decide) (by decide))).mono ?_; rintro e w' ⟨rfl, rfl⟩)
    | (go_at_call 120; refine (putPackets_nil HB.out (HZ.out 10 (by decide) (by decide))).mono ?_; rintro e w' ⟨rfl, rfl⟩)
    | (go_at_call 121; refine (putCtls_nil HB.out (HZ.out 14 (by decide) (by decide))).mono ?_; rintro e w' ⟨rfl, rfl⟩)
    | (go_at_call 122; refine (bkPutSays w0 _ HB.out HKSays.out).mono ?_; rintro e w1 ⟨rfl, hp1, hu1⟩; have HB := Lib.hid (HB.out.updT hu1 (by decide)); have H0 := Lib.hid (hu1.below H0.out); have HT := Lib.hid (HT.out.trans (hu1.mono (by simp))); have HPSays := Lib.hid hp1; clear HKSays hp1; have HKAvps := Lib.hid (HKAvps.out.updT hu1 (by decide) (by decide)); clear hu1)
    | (go_at_call 123; refine (putSteps_nil HB.out (HZ.out 34 (by decide) (by decide))).mono ?_; rintro e w' ⟨rfl, rfl⟩)
    | (go_at_call 124; refine (putTexts_nil HB.out (HZ.out 0 (by decide) (by decide))).mono ?_; rintro e w' ⟨rfl, rfl⟩)
    | (go_at_call 125; refine (putInts_nil HB.out (HZ.out 2 (by decide) (by decide))).mono ?_; rintro e w' ⟨rfl, rfl⟩)
    | (go_at_call 126; refine (putEthers_nil HB.out (HZ.out 4 (by decide) (by decide))).mono ?_; rintro e w' ⟨rfl, rfl⟩)
    | (go_at_call 127; refine (putTags_nil HB.out (HZ.out 6 (by decide) (by decide))).mono ?_; rintro e w' ⟨rfl, rfl⟩)
    | (go_at_call 128; refine (putOptions_nil HB.out (HZ.out 8 (by decide) (by decide))).mono ?_; rintro e w' ⟨rfl, rfl⟩)
    | (go_at_call 129; refine (bkPutAvps w0 _ HB.out HKAvps.out).mono ?_; rintro e w1 ⟨rfl, hp1, hu1⟩; have HB := Lib.hid (HB.out.updT hu1 (by decide)); have H0 := Lib.hid (hu1.below H0.out); have HT := Lib.hid (HT.out.trans (hu1.mono (by simp))); have HPAvps := Lib.hid hp1; clear HKAvps hp1; have HPSays := Lib.hid (HPSays.out.updT hu1 (by decide) (by decide)); clear hu1)
    | (go_at_call 130; refine (putKeys_nil HB.out (HZ.out 16 (by decide) (by decide))).mono ?_; rintro e w' ⟨rfl, rfl⟩)
    | (go_at_call 131; refine (putSessions_nil HB.out (HZ.out 18 (by decide) (by decide))).mono ?_; rintro e w' ⟨rfl, rfl⟩)
    | (go_at_call 132; refine (putIds_nil HB.out (HZ.out 20 (by decide) (by decide))).mono ?_; rintro e w' ⟨rfl, rfl⟩)
    | (go_at_call 133; refine (putGrams_nil HB.out (HZ.out 22 (by decide) (by decide))).mono ?_; rintro e w' ⟨rfl, rfl⟩)
    | (go_at_call 134; refine (putItems_nil HB.out (HZ.out 26 (by decide) (by decide))).mono ?_; rintro e w' ⟨rfl, rfl⟩)
    | (go_at_call 135; refine (putLines_nil HB.out (HZ.out 28 (by decide) (by decide))).mono ?_; rintro e w' ⟨rfl, rfl⟩)
    | (go_at_call 136; refine (putSeats_nil HB.out (HZ.out 30 (by decide) (by decide))).mono ?_; rintro e w' ⟨rfl, rfl⟩)
    | (go_at_call 137; refine (putEvents_nil HB.out (HZ.out 32 (by decide) (by decide))).mono ?_; rintro e w' ⟨rfl, rfl⟩)
    | (go_at_call 138; refine (growTexts_nil HB.out (HZ.out 0 (by decide) (by decide))).mono ?_; rintro e w' ⟨rfl, rfl⟩)
    | (go_at_call 139; refine (growInts_nil HB.out (HZ.out 2 (by decide) (by decide))).mono ?_; rintro e w' ⟨rfl, rfl⟩)
    | (go_at_call 140; refine (growEthers_nil HB.out (HZ.out 4 (by decide) (by decide))).mono ?_; rintro e w' ⟨rfl, rfl⟩)
    | (go_at_call 141; refine (growTags_nil HB.out (HZ.out 6 (by decide) (by decide))).mono ?_; rintro e w' ⟨rfl, rfl⟩)
    | (go_at_call 142; refine (growOptions_nil HB.out (HZ.out 8 (by decide) (by decide))).mono ?_; rintro e w' ⟨rfl, rfl⟩)
    | (go_at_call 143; refine (growPackets_nil HB.out (HZ.out 10 (by decide) (by decide))).mono ?_; rintro e w' ⟨rfl, rfl⟩)
    | (go_at_call 144; refine (bkGrowAvps w0 _ HB.out HPAvps.out).mono ?_; rintro e w1 ⟨vAvps, uAvps, rfl, hv1, hc1, hm1, hu1⟩; have HB := Lib.hid (HB.out.updT hu1 (by decide)); have H0 := Lib.hid (hu1.below H0.out); have HT := Lib.hid (HT.out.trans (hu1.mono (by simp))); have HVAvps := Lib.hid hv1; have HMAvps := Lib.hid hm1; have HCAvps := Lib.hid hc1; clear HPAvps hv1 hm1 hc1; have HPSays := Lib.hid (HPSays.out.updT hu1 (by decide) (by decide)); clear hu1)
    | (go_at_call 145; refine (growCtls_nil HB.out (HZ.out 14 (by decide) (by decide))).mono ?_; rintro e w' ⟨rfl, rfl⟩)
    | (go_at_call 146; refine (growKeys_nil HB.out (HZ.out 16 (by decide) (by decide))).mono ?_; rintro e w' ⟨rfl, rfl⟩)
    | (go_at_call 147; refine (growSessions_nil HB.out (HZ.out 18 (by decide) (by decide))).mono ?_; rintro e w' ⟨rfl, rfl⟩)
    | (go_at_call 148; refine (growIds_nil HB.out (HZ.out 20 (by decide) (by decide))).mono ?_; rintro e w' ⟨rfl, rfl⟩)
    | (go_at_call 149; refine (growGrams_nil HB.out (HZ.out 22 (by decide) (by decide))).mono ?_; rintro e w' ⟨rfl, rfl⟩)
    | (go_at_call 150; refine (bkGrowSays w0 _ HB.out HPSays.out).mono ?_; rintro e w1 ⟨vSays, uSays, rfl, hv1, hc1, hm1, hu1⟩; have HB := Lib.hid (HB.out.updT hu1 (by decide)); have H0 := Lib.hid (hu1.below H0.out); have HT := Lib.hid (HT.out.trans (hu1.mono (by simp))); have HVSays := Lib.hid hv1; have HMSays := Lib.hid hm1; have HCSays := Lib.hid hc1; clear HPSays hv1 hm1 hc1; have HVAvps := Lib.hid (HVAvps.out.updT hu1 (by decide) (by decide)); have HMAvps := Lib.hid (HMAvps.out.updT hu1 (by decide) (by decide)); clear hu1)
    | (go_at_call 151; refine (growItems_nil HB.out (HZ.out 26 (by decide) (by decide))).mono ?_; rintro e w' ⟨rfl, rfl⟩)
    | (go_at_call 152; refine (growLines_nil HB.out (HZ.out 28 (by decide) (by decide))).mono ?_; rintro e w' ⟨rfl, rfl⟩)
    | (go_at_call 153; refine (growSeats_nil HB.out (HZ.out 30 (by decide) (by decide))).mono ?_; rintro e w' ⟨rfl, rfl⟩)
    | (go_at_call 154; refine (growEvents_nil HB.out (HZ.out 32 (by decide) (by decide))).mono ?_; rintro e w' ⟨rfl, rfl⟩)
    | (go_at_call 155; refine (growSteps_nil HB.out (HZ.out 34 (by decide) (by decide))).mono ?_; rintro e w' ⟨rfl, rfl⟩; have b0 := HB.out.cell 0; rw [HZ.out 0 (by decide) (by decide)] at b0; have b1 := HB.out.cell 2; rw [HZ.out 2 (by decide) (by decide)] at b1; have b2 := HB.out.cell 4; rw [HZ.out 4 (by decide) (by decide)] at b2; have b3 := HB.out.cell 6; rw [HZ.out 6 (by decide) (by decide)] at b3; have b4 := HB.out.cell 8; rw [HZ.out 8 (by decide) (by decide)] at b4; have b5 := HB.out.cell 10; rw [HZ.out 10 (by decide) (by decide)] at b5; have b6 := HB.out.cell 12; rw [HCAvps.out] at b6; have b7 := HB.out.cell 14; rw [HZ.out 14 (by decide) (by decide)] at b7; have b8 := HB.out.cell 16; rw [HZ.out 16 (by decide) (by decide)] at b8; have b9 := HB.out.cell 18; rw [HZ.out 18 (by decide) (by decide)] at b9; have b10 := HB.out.cell 20; rw [HZ.out 20 (by decide) (by decide)] at b10; have b11 := HB.out.cell 22; rw [HZ.out 22 (by decide) (by decide)] at b11; have b12 := HB.out.cell 24; rw [HCSays.out] at b12; have b13 := HB.out.cell 26; rw [HZ.out 26 (by decide) (by decide)] at b13; have b14 := HB.out.cell 28; rw [HZ.out 28 (by decide) (by decide)] at b14; have b15 := HB.out.cell 30; rw [HZ.out 30 (by decide) (by decide)] at b15; have b16 := HB.out.cell 32; rw [HZ.out 32 (by decide) (by decide)] at b16; have b17 := HB.out.cell 34; rw [HZ.out 34 (by decide) (by decide)] at b17)
    | (go_at_call 156; refine (markedTexts_nil _).mono ?_; rintro e w' ⟨rfl, rfl⟩)
    | (go_at_call 157; refine (markedInts_nil _).mono ?_; rintro e w' ⟨rfl, rfl⟩)
    | (go_at_call 158; refine (markedEthers_nil _).mono ?_; rintro e w' ⟨rfl, rfl⟩)
    | (go_at_call 159; refine (markedTags_nil _).mono ?_; rintro e w' ⟨rfl, rfl⟩)
    | (go_at_call 160; refine (markedOptions_nil _).mono ?_; rintro e w' ⟨rfl, rfl⟩)
    | (go_at_call 161; refine (markedPackets_nil _).mono ?_; rintro e w' ⟨rfl, rfl⟩)
    | (go_at_call 162; (first | (with_reducible refine (bkMarkedAvps _ _ HVAvps.out).mono ?_) | (with_reducible refine (bkMarkedAvps _ _ HMAvps.out).mono ?_)); rintro e w1 ⟨rfl, hu1⟩; have HB := Lib.hid (HB.out.upd hu1 (by simp)); have H0 := Lib.hid (H0.out.trans hu1); have HT := Lib.hid (HT.out.nil hu1); have HVAvps := Lib.hid (HVAvps.out.updT (T := []) (lo := 0) (.of_nil hu1) (by simp) (by simp)); have HMAvps := Lib.hid (HMAvps.out.updT (T := []) (lo := 0) (.of_nil hu1) (by simp) (by simp)); have HVSays := Lib.hid (HVSays.out.updT (T := []) (lo := 0) (.of_nil hu1) (by simp) (by simp)); have HMSays := Lib.hid (HMSays.out.updT (T := []) (lo := 0) (.of_nil hu1) (by simp) (by simp)); clear hu1; clear b0; have b0 := HB.out.cell 0; rw [HZ.out 0 (by decide) (by decide)] at b0; clear b1; have b1 := HB.out.cell 2; rw [HZ.out 2 (by decide) (by decide)] at b1; clear b2; have b2 := HB.out.cell 4; rw [HZ.out 4 (by decide) (by decide)] at b2; clear b3; have b3 := HB.out.cell 6; rw [HZ.out 6 (by decide) (by decide)] at b3; clear b4; have b4 := HB.out.cell 8; rw [HZ.out 8 (by decide) (by decide)] at b4; clear b5; have b5 := HB.out.cell 10; rw [HZ.out 10 (by decide) (by decide)] at b5; clear b6; have b6 := HB.out.cell 12; rw [HCAvps.out] at b6; clear b7; have b7 := HB.out.cell 14; rw [HZ.out 14 (by decide) (by decide)] at b7; clear b8; have b8 := HB.out.cell 16; rw [HZ.out 16 (by decide) (by decide)] at b8; clear b9; have b9 := HB.out.cell 18; rw [HZ.out 18 (by decide) (by decide)] at b9; clear b10; have b10 := HB.out.cell 20; rw [HZ.out 20 (by decide) (by decide)] at b10; clear b11; have b11 := HB.out.cell 22; rw [HZ.out 22 (by decide) (by decide)] at b11; clear b12; have b12 := HB.out.cell 24; rw [HCSays.out] at b12; clear b13; have b13 := HB.out.cell 26; rw [HZ.out 26 (by decide) (by decide)] at b13; clear b14; have b14 := HB.out.cell 28; rw [HZ.out 28 (by decide) (by decide)] at b14; clear b15; have b15 := HB.out.cell 30; rw [HZ.out 30 (by decide) (by decide)] at b15; clear b16; have b16 := HB.out.cell 32; rw [HZ.out 32 (by decide) (by decide)] at b16; clear b17; have b17 := HB.out.cell 34; rw [HZ.out 34 (by decide) (by decide)] at b17)
    | (go_at_call 163; refine (markedCtls_nil _).mono ?_; rintro e w' ⟨rfl, rfl⟩)
    | (go_at_call 164; refine (markedKeys_nil _).mono ?_; rintro e w' ⟨rfl, rfl⟩)
    | (go_at_call 165; refine (markedSessions_nil _).mono ?_; rintro e w' ⟨rfl, rfl⟩)
    | (go_at_call 166; refine (markedIds_nil _).mono ?_; rintro e w' ⟨rfl, rfl⟩)
    | (go_at_call 167; refine (markedGrams_nil _).mono ?_; rintro e w' ⟨rfl, rfl⟩)
    | (go_at_call 168; (first | (with_reducible refine (bkMarkedSays _ _ HVSays.out).mono ?_) | (with_reducible refine (bkMarkedSays _ _ HMSays.out).mono ?_)); rintro e w1 ⟨rfl, hu1⟩; have HB := Lib.hid (HB.out.upd hu1 (by simp)); have H0 := Lib.hid (H0.out.trans hu1); have HT := Lib.hid (HT.out.nil hu1); have HVAvps := Lib.hid (HVAvps.out.updT (T := []) (lo := 0) (.of_nil hu1) (by simp) (by simp)); have HMAvps := Lib.hid (HMAvps.out.updT (T := []) (lo := 0) (.of_nil hu1) (by simp) (by simp)); have HVSays := Lib.hid (HVSays.out.updT (T := []) (lo := 0) (.of_nil hu1) (by simp) (by simp)); have HMSays := Lib.hid (HMSays.out.updT (T := []) (lo := 0) (.of_nil hu1) (by simp) (by simp)); clear hu1; clear b0; have b0 := HB.out.cell 0; rw [HZ.out 0 (by decide) (by decide)] at b0; clear b1; have b1 := HB.out.cell 2; rw [HZ.out 2 (by decide) (by decide)] at b1; clear b2; have b2 := HB.out.cell 4; rw [HZ.out 4 (by decide) (by decide)] at b2; clear b3; have b3 := HB.out.cell 6; rw [HZ.out 6 (by decide) (by decide)] at b3; clear b4; have b4 := HB.out.cell 8; rw [HZ.out 8 (by decide) (by decide)] at b4; clear b5; have b5 := HB.out.cell 10; rw [HZ.out 10 (by decide) (by decide)] at b5; clear b6; have b6 := HB.out.cell 12; rw [HCAvps.out] at b6; clear b7; have b7 := HB.out.cell 14; rw [HZ.out 14 (by decide) (by decide)] at b7; clear b8; have b8 := HB.out.cell 16; rw [HZ.out 16 (by decide) (by decide)] at b8; clear b9; have b9 := HB.out.cell 18; rw [HZ.out 18 (by decide) (by decide)] at b9; clear b10; have b10 := HB.out.cell 20; rw [HZ.out 20 (by decide) (by decide)] at b10; clear b11; have b11 := HB.out.cell 22; rw [HZ.out 22 (by decide) (by decide)] at b11; clear b12; have b12 := HB.out.cell 24; rw [HCSays.out] at b12; clear b13; have b13 := HB.out.cell 26; rw [HZ.out 26 (by decide) (by decide)] at b13; clear b14; have b14 := HB.out.cell 28; rw [HZ.out 28 (by decide) (by decide)] at b14; clear b15; have b15 := HB.out.cell 30; rw [HZ.out 30 (by decide) (by decide)] at b15; clear b16; have b16 := HB.out.cell 32; rw [HZ.out 32 (by decide) (by decide)] at b16; clear b17; have b17 := HB.out.cell 34; rw [HZ.out 34 (by decide) (by decide)] at b17)
    | (go_at_call 169; refine (markedItems_nil _).mono ?_; rintro e w' ⟨rfl, rfl⟩)
    | (go_at_call 170; refine (markedLines_nil _).mono ?_; rintro e w' ⟨rfl, rfl⟩)
    | (go_at_call 171; refine (markedSeats_nil _).mono ?_; rintro e w' ⟨rfl, rfl⟩)
    | (go_at_call 172; refine (markedEvents_nil _).mono ?_; rintro e w' ⟨rfl, rfl⟩)
    | (go_at_call 173; refine (markedSteps_nil _).mono ?_; rintro e w' ⟨rfl, rfl⟩))
  go_ret
  exact ⟨rfl, H0.out, HT.out⟩
theorem apartAS_any {X : List Nat} {w0 w : World} {g : Nat} {RAvps : List (Bit Av)} {RSays : List (Bit SayR)} (h : BkAS X w0 w g RAvps RSays) :
    Calls Tryz.prog 31 #[.pointer (some ⟨g, 0, none⟩)] w fun e w' => e = .returned (.bool true) ∧ Upd [] w0 w' :=
  (apartAS_all h).mono fun e w' ⟨h1, h2, _⟩ => ⟨h1, h2⟩
end Go.Proofs.YtglafpdealjlnaaGreat
