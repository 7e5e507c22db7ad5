/- Of CallPlays: two lists of things said compared; what was said comes into the book; the peer's words come behind the mail; the mail's first is taken off. -/
import Derived.BigQuiet
import Derived.Test.YtglafpdealjlnaaGreatQCpP
import Derived.Test.YtglafpdealjlnaaGreatQRes
import Derived.Test.YtglafpdealjlnaaGreatQCuts
namespace Go.Proofs.YtglafpdealjlnaaGreat
open Go.RowKit
set_option linter.unusedSimpArgs false
set_option linter.unusedVariables false
set_option maxRecDepth 100000

/-- Things said, as the book holds them. -/
theorem sayRows {w : World} : ∀ (l : List Sy) (us : List Value), us.length = l.length → (∀ (i : Nat) (p : Sy) (u : Value), l[i]? = some p → us[i]? = some u → ∃ ou, Own w 85 5 u p.2.length (avCells p.2) ou) →
    ∃ rs : List SayR, rs.length = l.length ∧ sayCells l us = rs.flatMap bkCSays ∧ ∀ (i : Nat) (r : SayR) (p : Sy), rs[i]? = some r → l[i]? = some p → r.ss = p.1 ∧ SlAt 85 w r.sl p.2 ∧ us[i]? = some r.sl.val
  | [], [], _, _ => ⟨[], rfl, rfl, by simp⟩
  | [], _ :: _, h, _ => by simp at h
  | _ :: _, [], h, _ => by simp at h
  | p :: l, u :: us, h, hc => by
    obtain ⟨rs, h1, h2, h3⟩ := sayRows l us (by simpa using h) (fun i q x hi hx => hc (i + 1) q x (by simpa using hi) (by simpa using hx))
    obtain ⟨ou, ho⟩ := hc 0 p u rfl rfl
    obtain ⟨ao, cap, rfl, -, -⟩ := ho.shape
    refine ⟨⟨p.1, ⟨ao, p.2.length, cap⟩⟩ :: rs, by simp [h1], by rw [List.flatMap_cons, ← h2]; rfl, fun i r q hr hq => ?_⟩
    cases i with
    | zero =>
      simp at hr hq
      subst hr hq
      exact ⟨rfl, ⟨ou, rfl, ho⟩, rfl⟩
    | succ i => exact h3 i r q (by simpa using hr) (by simpa using hq)
set_option maxHeartbeats 2000000 in
theorem callSame_any (l m : List SayR) (v u : Value) (w : World) (hl : Rd w 2 v l.length (l.flatMap bkCSays)) (hm : Rd w 2 u m.length (m.flatMap bkCSays)) (hr : RelSays w l m) :
    Calls Tryz.prog 48 #[v, u] w fun e w' => e = .returned (.bool true) ∧ ∃ x, w' = w.drewN x := by
  obtain ⟨ao, cap, rfl, h1, h2, -⟩ := id hl
  obtain ⟨bo, cbp, rfl, g1, g2, -⟩ := id hm
  obtain ⟨n, hn⟩ : ∃ n, n = l.length := ⟨_, rfl⟩
  have hmn : m.length = n := by rw [hr.1, hn]
  rw [← hn] at h1 hl
  rw [hmn] at g1 hm
  rw [← hn, hmn]
  have HL := Lib.hid hl
  have HM := Lib.hid hm
  have HN := Lib.hid hn
  have HMN := Lib.hid hmn
  have HR := Lib.hid hr
  simp only [maxLen] at h2 g2
  clear hl hn hm hr hmn
  go_enter Tryz.func48, Tryz.ntmps48
  go_wp2
  go_loopg [5] n (fun x s5 wr => ∃ k : Nat, k + x = n ∧ s5 = .int .i64 k ∧ ∃ x, wr = w.drewN x)
  case atStart => exact ⟨0, by omega, rfl, 0, rfl⟩
  case round =>
    obtain ⟨k, hk, rfl, nd, rfl⟩ := hrel
    by_cases t : k < n
    · obtain ⟨x, hx⟩ : ∃ x, l[k]? = some x := by
        have := HN.out
        exact ⟨_, List.getElem?_eq_getElem (by omega)⟩
      obtain ⟨y, hy⟩ : ∃ y, m[k]? = some y := by
        have := HMN.out
        exact ⟨_, List.getElem?_eq_getElem (by omega)⟩
      have hu : Upd [] w (w.drewN nd) := (Upd.refl _ _).drewN _
      obtain ⟨hss, L, hL1, hL2⟩ := HR.out.2 k x y hx hy
      have HS : Hid (∀ z, Calls Tryz.prog 90 #[x.sl.val, y.sl.val] ((w.drewN nd).drewN z) fun e w' => e = .returned (.bool true) ∧ ∃ m, w' = (w.drewN nd).drewN m) := fun z => by
        have A := (hL1.upd (hu.drewN z)).rd
        have B := (hL2.upd (hu.drewN z)).rd
        exact Calls.quiet_of (rsameQ18 L _ _ _ A B)
      obtain ⟨q, rfl, z0, zj⟩ := (HL.out.upd hu).at bkCSays_len hx (by decide)
      have c0 := z0 _ rfl
      have c1 := zj 1 _ (by omega) rfl
      clear z0 zj
      obtain ⟨q', rfl, z0, zj⟩ := (HM.out.upd hu).at bkCSays_len hy (by decide)
      have d0 := z0 _ rfl
      have d1 := zj 1 _ (by omega) rfl
      clear z0 zj
      rw [← hss] at d0
      clear hu hx hy hL1 hL2
      obtain ⟨wr, hwr⟩ : ∃ x, x = w.drewN nd := ⟨_, rfl⟩
      rw [← hwr] at c0 c1 d0 d1 HS ⊢
      have HWR := Lib.hid hwr
      clear hwr
      go_wp2
      go_quiet ((go_at_call 90; exact HS.out _))
      go_wp2
      go_roundg (n - (k + 1))
      case rel => exact ⟨k + 1, by omega, by go_num, _, by rw [HWR.out, World.drewN_drewN]⟩
      case measure => omega
    · obtain rfl : k = n := by omega
      go_wp2
      go_ret
      exact ⟨rfl, nd, rfl⟩

/-- What the book's steps leave as it was. -/
abbrev frB : List TypeId := [49, 22, 81]
abbrev FrB (w0 w w' : World) : Prop := UpdT frB w0.heap.size w w'
section
variable {w0 w w' : World} {b b' bp g : Nat} {kc kr p k1 : K} {vm va vb : Value} {m l : List Sy}
theorem CpB.same {us : List Value} {om ob : List Nat} (h : CpB w0 w b b' bp g kc kr p vm m va vb l us om ob) :
    Calls Tryz.prog 48 #[va, vb] w fun e w' => e = .returned (.bool true) ∧ CpB w0 w' b b' bp g kc kr p vm m va vb l us om ob := by
  obtain ⟨own, lo, RA, RS, hb, ha, h3⟩ := h.a.a
  obtain ⟨us1, a1, a2, a3⟩ := ha.says
  obtain ⟨b1, b2, b3⟩ := h.ob_
  obtain ⟨rs, r1, r2, r3⟩ := sayRows l us1 a1 a3
  obtain ⟨rt, t1, t2, t3⟩ := sayRows l us b1 b3
  rw [r2, ← r1] at a2
  rw [t2, ← t1] at b2
  refine (callSame_any rs rt va vb w (a2.rdB (bkCSays_one _)) (b2.rdB (bkCSays_one _)) ⟨by rw [r1, t1], fun i x y hx hy => ?_⟩).mono ?_
  · obtain ⟨q, hq⟩ : ∃ q, l[i]? = some q := ⟨_, List.getElem?_eq_getElem (by have := (List.getElem?_eq_some_iff.1 hx).1; omega)⟩
    obtain ⟨e1, e2, -⟩ := r3 i x q hx hq
    obtain ⟨f1, f2, -⟩ := t3 i y q hy hq
    exact ⟨e1.trans f1.symm, q.2, e2, f2⟩
  · rintro e w' ⟨he, x, rfl⟩
    exact ⟨he, h.keep ((Upd.refl _ _).drewN _)⟩
/-- How far what was said is in the book. -/
structure SdAt (w0 w : World) (g : Nat) (l : List Sy) (us : List Value) (ou : Nat → List Nat) (va : Value) (own : List Nat) (lo j : Nat) : Prop where
  bk : ∃ RA RS, BkAS [] w0 w g RA RS ∧ (∀ d ∈ RA, ∀ k ∈ d.own, k < lo ∨ ∃ i, i < j ∧ k ∈ ou i) ∧ ∀ d ∈ RS, ∀ k ∈ d.own, k < lo
  o : Own w 191 2 va l.length (sayCells l us) own
  a : ∀ (i : Nat) (p : Sy) (u : Value), l[i]? = some p → us[i]? = some u → Own w 85 5 u p.2.length (avCells p.2) (ou i)
theorem SdAt.upd {us : List Value} {ou : Nat → List Nat} {own : List Nat} {lo j : Nat} (h : SdAt w0 w g l us ou va own lo j) (hu : Upd [] w w') : SdAt w0 w' g l us ou va own lo j := by
  obtain ⟨RA, RS, h1, h2⟩ := h.bk
  exact ⟨⟨RA, RS, h1.upd hu, h2⟩, h.o.upd hu (by simp), fun i p u hi hx => (h.a i p u hi hx).upd hu (by simp)⟩
theorem SdAt.step {us : List Value} {ou : Nat → List Nat} {own : List Nat} {lo j : Nat} {q : Sy} {u : Value} (h : SdAt w0 w g l us ou va own lo j) (hq : l[j]? = some q) (hu : us[j]? = some u) (hn : q.2.length ≤ 5000) (hf : ∀ k ∈ ou j, lo ≤ k) (hlo : w0.heap.size ≤ lo)
    (hd : ∀ i, i < j → ∀ k ∈ ou i, k ∉ ou j) :
    Calls Tryz.prog 25 #[.pointer (some ⟨g, 0, none⟩), u] w fun e w' => e = .returned (.tuple #[]) ∧ SdAt w0 w' g l us ou va own lo (j + 1) ∧ FrB w0 w w' := by
  obtain ⟨RA, RS, h1, h2, h3⟩ := h.bk
  have ho := h.a j q u hq hu
  refine (h1.addAvps ⟨u, q.2, ou j⟩ (by unfold Held; rw [← avCells_bk]; exact ho) (Nat.le_trans hn (by decide)) (fun k hk => Nat.le_trans hlo (hf k hk)) (fun d hd2 k hk hk2 => ?_) (by simp) (by simp)).mono ?_
  · rcases h2 d hd2 k hk with h4 | ⟨i, hi, h4⟩
    · have := hf k hk2; omega
    · exact hd i hi k h4 hk2
  · rintro e w' ⟨he, h4, h5⟩
    refine ⟨he, ⟨⟨_, RS, h4, fun d hd2 k hk => ?_, h3⟩, h.o.updT h5 (by decide), fun i p x hi hx => (h.a i p x hi hx).updT h5 (by decide)⟩, h5.mono (by simp)⟩
    have hcase : d ∈ RA ∨ d = ⟨u, q.2, ou j⟩ := by
      split at hd2
      · rcases List.mem_append.1 hd2 with hd2 | hd2
        · exact .inl hd2
        · simp at hd2; exact .inr hd2
      · exact .inl hd2
    rcases hcase with hd2 | rfl
    · rcases h2 d hd2 k hk with h6 | ⟨i, hi, h6⟩
      · exact .inl h6
      · exact .inr ⟨i, by omega, h6⟩
    · exact .inr ⟨j, by omega, hk⟩
theorem SdAt.last {us : List Value} {ou : Nat → List Nat} {own : List Nat} {lo j : Nat} (h : SdAt w0 w g l us ou va own lo j) (hlen : us.length = l.length) (hn : SaysOk 10 l) (hf : ∀ k ∈ own, lo ≤ k) (hlo : w0.heap.size ≤ lo) :
    Calls Tryz.prog 190 #[.pointer (some ⟨g, 0, none⟩), va] w fun e w' => e = .returned (.tuple #[]) ∧ (∃ RA RS, BkAS [] w0 w' g RA RS) ∧ FrB w0 w w' := by
  obtain ⟨RA, RS, h1, h2, h3⟩ := h.bk
  obtain ⟨rs, r1, r2, r3⟩ := sayRows l us hlen (fun i p u hi hx => ⟨_, h.a i p u hi hx⟩)
  have ho := h.o
  rw [r2, ← r1] at ho
  refine (h1.addSays ⟨va, rs, own⟩ ho (by show rs.length ≤ _; have := hn.le; omega) (fun k hk => Nat.le_trans hlo (hf k hk)) (fun d hd k hk hk2 => by have := h3 d hd k hk; have := hf k hk2; omega) (by simp) (fun x hx => ?_) (by simp)).mono ?_
  · obtain ⟨i, hi⟩ := List.mem_iff_getElem?.1 hx
    obtain ⟨q, hq⟩ : ∃ q, l[i]? = some q := ⟨_, List.getElem?_eq_getElem (by have := (List.getElem?_eq_some_iff.1 hi).1; have : (i : Nat) < rs.length := this; omega)⟩
    exact ⟨q.2, (r3 i x q hi hq).2.1, by have := (hn.all q (List.mem_of_getElem? hq)).n; omega⟩
  · rintro e w' ⟨he, h4, h5⟩
    exact ⟨he, ⟨_, _, h4⟩, h5.mono (by simp)⟩
set_option maxHeartbeats 1000000 in
/-- What was said comes into the book. -/
theorem said_any {us : List Value} {ou : Nat → List Nat} {own : List Nat} {lo : Nat} (h : SdAt w0 w g l us ou va own lo 0) (hlen : us.length = l.length) (hn : SaysOk 10 l) (hf : ∀ k ∈ own, lo ≤ k) (hlo : w0.heap.size ≤ lo)
    (hfo : ∀ i, i < l.length → ∀ k ∈ ou i, lo ≤ k) (hd : ∀ i j, i < l.length → j < l.length → i ≠ j → ∀ k ∈ ou i, k ∉ ou j) :
    Calls Tryz.prog 49 #[.pointer (some ⟨g, 0, none⟩), va] w fun e w' => e = .returned (.tuple #[]) ∧ (∃ RA RS, BkAS [] w0 w' g RA RS) ∧ FrB w0 w w' := by
  obtain ⟨ao, cap, rfl, hc1, hc2⟩ := h.o.shape
  obtain ⟨n, hnl⟩ : ∃ n, n = l.length := ⟨_, rfl⟩
  rw [← hnl] at h hc1 ⊢
  have HS := Lib.hid h
  have HH := Lib.hid (And.intro hlen (And.intro hn (And.intro hf (And.intro hlo (And.intro hfo hd)))))
  have HN := Lib.hid hnl
  have hn10 : n ≤ 10 := by rw [hnl]; exact hn.le
  simp only [maxLen] at hc2
  clear h hlen hn hf hlo hfo hd hnl
  go_enter Tryz.func49, Tryz.ntmps49
  go_wp2_with fail
  go_loopg [4] n (fun x s4 wr => ∃ j : Nat, j + x = n ∧ s4 = .int .i64 j ∧ SdAt w0 wr g l us ou (.slice ao n cap) own lo j ∧ FrB w0 w wr)
  case atStart => exact ⟨0, by omega, rfl, HS.out, UpdT.refl _ _ _⟩
  case round =>
    obtain ⟨j, hj, rfl, hs, hfr⟩ := hrel
    have H1 := Lib.hid hs
    have H2 := Lib.hid hfr
    clear hs hfr
    by_cases t : j < n
    · obtain ⟨q, hq⟩ : ∃ q, l[j]? = some q := ⟨_, List.getElem?_eq_getElem (by have := HN.out; omega)⟩
      obtain ⟨u, hu⟩ : ∃ u, us[j]? = some u := ⟨_, List.getElem?_eq_getElem (by have := HN.out; have := HH.out.1; omega)⟩
      have ho := H1.out.o
      rw [← HN.out] at ho
      obtain ⟨g', off', cap', hv, -, h5, h6, h7⟩ := ho.form (by omega)
      injection hv with hv1 _ hv2
      subst hv1 hv2
      obtain ⟨z0, z1⟩ := sayCells_get l us j hq hu
      have c1 := h7 _ _ z1
      rw [← Nat.add_assoc] at c1
      have hav := H1.out.a j q u hq hu
      obtain ⟨aq, cq, rfl, -, -⟩ := hav.shape
      have HST : Hid (Calls Tryz.prog 25 #[.pointer (some ⟨g, 0, none⟩), .slice aq q.2.length cq] wr fun e w' => e = .returned (.tuple #[]) ∧ SdAt w0 w' g l us ou (.slice (some ⟨g', off', none⟩) n cap) own lo (j + 1) ∧ FrB w0 wr w') := by
        obtain ⟨k1, k2, k3, k4, k5, k6⟩ := HH.out
        have hjl : j < l.length := by have := HN.out; omega
        exact H1.out.step hq hu ((k2.all q (List.mem_of_getElem? hq)).n) (k5 j hjl) k4 (fun i hi => k6 i j (by omega) hjl (by omega))
      obtain ⟨nq, hnq⟩ : ∃ n, n = q.2.length := ⟨_, rfl⟩
      rw [← hnq] at c1 HST
      clear ho h5 h6 h7 z0 z1 hav hnq hq hu
      go_wp2_with fail
      refine HST.out.mono ?_
      rintro e w3 ⟨rfl, h3, h4⟩
      have H3 := Lib.hid h3
      have H4 := Lib.hid (H2.out.trans h4)
      clear h3 h4 H1 H2 HST c1
      go_wp2_with fail
      go_roundg (n - (j + 1))
      case rel => exact ⟨j + 1, by omega, by go_num, H3.out, H4.out⟩
      case measure => omega
    · obtain rfl : j = n := by omega
      have HLT : Hid (Calls Tryz.prog 190 #[.pointer (some ⟨g, 0, none⟩), .slice ao j cap] wr fun e w' => e = .returned (.tuple #[]) ∧ (∃ RA RS, BkAS [] w0 w' g RA RS) ∧ FrB w0 wr w') := by
        obtain ⟨k1, k2, k3, k4, k5, k6⟩ := HH.out
        exact H1.out.last k1 k2 k3 k4
      go_wp2_with fail
      refine HLT.out.mono ?_
      rintro e w3 ⟨rfl, h3, h4⟩
      have H3 := Lib.hid h3
      have H4 := Lib.hid (H2.out.trans h4)
      clear h3 h4
      go_wp2_with fail
      go_end0
      exact ⟨rfl, H3.out, H4.out⟩
theorem CpA.said (h : CpA w0 w b b' bp g kc kr p vm m va l) (hn : SaysOk 10 l) :
    Calls Tryz.prog 49 #[.pointer (some ⟨g, 0, none⟩), va] w fun e w' => e = .returned (.tuple #[]) ∧ Cp w0 w' b b' bp g kc kr p vm m := by
  obtain ⟨own, lo, RA, RS, hb, ha, h1, h2, h3⟩ := h.a
  obtain ⟨us, ou, a1, a2, a3, a4, a5⟩ := ha
  have hfo : ∀ i, i < l.length → ∀ k ∈ ou i, lo ≤ k := fun i hi =>
    (a4 i l[i] (us[i]'(by omega)) (List.getElem?_eq_getElem hi) (List.getElem?_eq_getElem (by omega))).2
  refine (said_any (w0 := w0) (lo := lo) (us := us) (ou := ou) (own := own) ⟨⟨RA, RS, hb, fun d hd k hk => .inl (h2 d hd k hk), h3⟩, a2, fun i p u hi hx => (a4 i p u hi hx).1⟩ a1 hn a3 h1 hfo a5).mono ?_
  rintro e w' ⟨he, h4, h5⟩
  obtain ⟨om, hm, hmn⟩ := h.m
  exact ⟨he, h.c.updT h5 (by decide) (by decide), h.r.updT h5 (by decide) (by decide), h.p.updT h5 (by decide) (by decide), ⟨om, hm.updT h5 (by decide) (by decide), hmn⟩, h.ne, h.nb, h4⟩
end
end Go.Proofs.YtglafpdealjlnaaGreat
