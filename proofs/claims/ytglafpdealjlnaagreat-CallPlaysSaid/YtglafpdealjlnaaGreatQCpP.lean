/- What CallPlays holds between its steps: the program's end of a call, the document's, a right peer, what is on its way, the book. -/
import Derived.Test.YtglafpdealjlnaaGreatQCpK
import Derived.Test.YtglafpdealjlnaaGreatQCallW
import Derived.Test.YtglafpdealjlnaaGreatQRCallD
import Derived.Test.YtglafpdealjlnaaGreatQBkApAS
import Derived.Test.YtglafpdealjlnaaGreatQBkAvpsA
namespace Go.Proofs.YtglafpdealjlnaaGreat
open Go.RowKit
set_option linter.unusedSimpArgs false
set_option linter.unusedVariables false
set_option maxRecDepth 100000

section
variable {w w' : World} {b : Nat} {k : K} {T : List TypeId} {lo : Nat}
theorem CallAt.updT (h : CallAt w b k) (hu : UpdT T lo w w') (h1 : 193 ∉ T) (h2 : 85 ∉ T) : CallAt w' b k := by
  obtain ⟨vw, vg, ow, og, k1, k2, k3⟩ := h
  exact ⟨vw, vg, ow, og, k1.updT hu h1, k2.updT hu h2, k3.updT hu h2⟩
theorem RCallAt.updT (h : RCallAt w b k) (hu : UpdT T lo w w') (h1 : 101 ∉ T) (h2 : 85 ∉ T) : RCallAt w' b k := by
  obtain ⟨vw, vg, ow, og, k1, k2, k3⟩ := h
  exact ⟨vw, vg, ow, og, k1.updT hu h1, k2.updT hu h2, k3.updT hu h2⟩
theorem RSaysAt.updT {v : Value} {l : List Sy} {own : List Nat} (h : RSaysAt w v l own) (hu : UpdT T lo w w') (h1 : 91 ∉ T) (h2 : 85 ∉ T) : RSaysAt w' v l own := by
  obtain ⟨us, a1, a2, a3⟩ := h
  refine ⟨us, a1, a2.updT hu h1, fun i p u hi hx => ?_⟩
  obtain ⟨ou, h4⟩ := a3 i p u hi hx
  exact ⟨ou, h4.updT hu h2⟩
theorem SaysN.updT {l0 : Nat} {v : Value} {l : List Sy} {own : List Nat} (h : SaysN l0 w v l own) (hu : UpdT T lo w w') (h1 : 191 ∉ T) (h2 : 85 ∉ T) : SaysN l0 w' v l own := by
  obtain ⟨us, ou, a1, a2, a3, a4, a5⟩ := h
  exact ⟨us, ou, a1, a2.updT hu h1, a3, fun i p u hi hx => ⟨(a4 i p u hi hx).1.updT hu h2, (a4 i p u hi hx).2⟩, a5⟩
theorem CallAt.toT (h : CallAt w b k) (hlo : lo ≤ b) (hu : Upd [b] w w') : UpdT [193] lo w w' := by
  obtain ⟨vw, vg, ow, og, k1, k2, k3⟩ := h
  exact .of_upd hu fun x hx _ => by
    simp at hx; subst hx
    exact ⟨hlo, _, _, k1, by simp⟩
theorem RCallAt.toT (h : RCallAt w b k) (hlo : lo ≤ b) (hu : Upd [b] w w') : UpdT [101] lo w w' := by
  obtain ⟨vw, vg, ow, og, k1, k2, k3⟩ := h
  exact .of_upd hu fun x hx _ => by
    simp at hx; subst hx
    exact ⟨hlo, _, _, k1, by simp⟩
theorem RCallAt.other {b' : Nat} {k' : K} (h : RCallAt w b k) (h' : RCallAt w b' k') (hne : b ≠ b') (hu : Upd [b'] w w') : RCallAt w' b k := by
  obtain ⟨vw, vg, hb⟩ := h'.cells_
  exact h.away hb (by decide) hne hu
end
/-- Values that lie where nobody writes: they came in, or have blocks of their own. -/
def Src (w0 w : World) (v : Value) (l : List Av) : Prop := (AvsAt w0 v l ∧ Upd [] w0 w) ∨ ((∃ ou, Own w 85 5 v l.length (avCells l) ou) ∧ Upd [] w0 w)
theorem Src.avs {w0 w : World} {v : Value} {l : List Av} (h : Src w0 w v l) : AvsAt w v l := by
  rcases h with ⟨h, hu⟩ | ⟨⟨ou, h⟩, hu⟩
  · exact h.upd hu
  · exact .of_own h
theorem Src.updT {w0 w w' : World} {v : Value} {l : List Av} {T : List TypeId} (h : Src w0 w v l) (hu : UpdT T w0.heap.size w w') (h2 : 85 ∉ T) : Src w0 w' v l := by
  rcases h with ⟨h, h0⟩ | ⟨⟨ou, h⟩, h0⟩
  · exact .inl ⟨h, hu.below h0⟩
  · exact .inr ⟨⟨ou, h.updT hu h2⟩, hu.below h0⟩
theorem Src.upd {w0 w w' : World} {v : Value} {l : List Av} (h : Src w0 w v l) (hu : Upd [] w w') : Src w0 w' v l := h.updT (T := []) (.of_nil hu) (by simp)

/-- The types of the blocks that the calls write. -/
abbrev frT : List TypeId := [193, 101, 91, 49, 22, 81]
/-- What a step leaves as it was. -/
abbrev Fr (w0 w w' : World) : Prop := UpdT frT w0.heap.size w w'
theorem Fr.of_nil {w0 w w' : World} (h : Upd [] w w') : Fr w0 w w' := UpdT.of_nil h
structure Cp (w0 w : World) (b b' bp g : Nat) (kc kr p : K) (vm : Value) (m : List Sy) : Prop where
  c : CallAt w b kc
  r : RCallAt w b' kr
  p : RCallAt w bp p
  m : ∃ om, RSaysAt w vm m om ∧ ∀ x ∈ om, w0.heap.size ≤ x
  ne : b' ≠ bp
  nb : w0.heap.size ≤ b ∧ w0.heap.size ≤ b' ∧ w0.heap.size ≤ bp
  bk : ∃ RA RS, BkAS [] w0 w g RA RS
/-- .. and what the program's end said, which is not in the book yet. -/
structure CpA (w0 w : World) (b b' bp g : Nat) (kc kr p : K) (vm : Value) (m : List Sy) (va : Value) (l : List Sy) : Prop where
  c : CallAt w b kc
  r : RCallAt w b' kr
  p : RCallAt w bp p
  m : ∃ om, RSaysAt w vm m om ∧ ∀ x ∈ om, w0.heap.size ≤ x
  ne : b' ≠ bp
  nb : w0.heap.size ≤ b ∧ w0.heap.size ≤ b' ∧ w0.heap.size ≤ bp
  a : ∃ own lo RA RS, BkAS [] w0 w g RA RS ∧ SaysN lo w va l own ∧ w0.heap.size ≤ lo ∧ (∀ d ∈ RA, ∀ k ∈ d.own, k < lo) ∧ ∀ d ∈ RS, ∀ k ∈ d.own, k < lo
/-- Things that the document's end said, with their slices. -/
structure RSaysU (w : World) (v : Value) (l : List Sy) (us : List Value) (own : List Nat) : Prop where
  n : us.length = l.length
  o : Own w 91 2 v l.length (sayCells l us) own
  a : ∀ (i : Nat) (p : Sy) (u : Value), l[i]? = some p → us[i]? = some u → ∃ ou, Own w 85 5 u p.2.length (avCells p.2) ou
theorem RSaysU.at_ {w : World} {v : Value} {l : List Sy} {us : List Value} {own : List Nat} (h : RSaysU w v l us own) : RSaysAt w v l own := ⟨us, h.n, h.o, h.a⟩
theorem RSaysAt.us {w : World} {v : Value} {l : List Sy} {own : List Nat} (h : RSaysAt w v l own) : ∃ us, RSaysU w v l us own := by
  obtain ⟨us, h1, h2, h3⟩ := h
  exact ⟨us, h1, h2, h3⟩
theorem RSaysU.updT {w w' : World} {v : Value} {l : List Sy} {us : List Value} {own : List Nat} {T : List TypeId} {lo : Nat} (h : RSaysU w v l us own) (hu : UpdT T lo w w') (h1 : 91 ∉ T) (h2 : 85 ∉ T) : RSaysU w' v l us own :=
  ⟨h.n, h.o.updT hu h1, fun i p u hi hx => (h.a i p u hi hx).elim fun ou h4 => ⟨ou, h4.updT hu h2⟩⟩
theorem RSaysU.upd {w w' : World} {v : Value} {l : List Sy} {us : List Value} {own : List Nat} (h : RSaysU w v l us own) (hu : Upd [] w w') : RSaysU w' v l us own := h.updT (T := []) (lo := 0) (.of_nil hu) (by simp) (by simp)
theorem RSaysU.off {w w' : World} {v : Value} {l : List Sy} {us xs : List Value} {own om : List Nat} {vm : Value} {n : Nat} (h : RSaysU w v l us own) (ho : Own w 91 2 vm n xs om) (hu : Upd om w w') (hf : ∀ x ∈ own, x ∉ om) : RSaysU w' v l us own :=
  ⟨h.n, h.o.upd hu hf, fun i p u hi hx => (h.a i p u hi hx).elim fun ou h4 => ⟨ou, h4.upd hu (h4.ne_own ho (by decide))⟩⟩
/-- .. and what the document's said. -/
structure CpB (w0 w : World) (b b' bp g : Nat) (kc kr p : K) (vm : Value) (m : List Sy) (va vb : Value) (l : List Sy) (us : List Value) (om ob : List Nat) : Prop where
  a : CpA w0 w b b' bp g kc kr p vm m va l
  om_ : RSaysAt w vm m om ∧ ∀ x ∈ om, w0.heap.size ≤ x
  ob_ : RSaysU w vb l us ob
  off : ∀ x ∈ ob, x ∉ om
section
variable {w0 w w' : World} {b b' bp g : Nat} {kc kr p k1 : K} {vm va vb : Value} {m l : List Sy} {T : List TypeId} {us : List Value} {om ob : List Nat}
theorem Cp.ups (h : Cp w0 w b b' bp g kc kr p vm m) : Upd [] w0 w := by
  obtain ⟨RA, RS, h⟩ := h.bk
  obtain ⟨cs, _, _, _, h1, _⟩ := h
  exact h1.ups
theorem CpA.ups (h : CpA w0 w b b' bp g kc kr p vm m va l) : Upd [] w0 w := by
  obtain ⟨own, lo, RA, RS, h, -⟩ := h.a
  obtain ⟨cs, _, _, _, h1, _⟩ := h
  exact h1.ups
theorem CpB.ups (h : CpB w0 w b b' bp g kc kr p vm m va vb l us om ob) : Upd [] w0 w := h.a.ups
theorem Cp.keep (h : Cp w0 w b b' bp g kc kr p vm m) (hu : Upd [] w w') : Cp w0 w' b b' bp g kc kr p vm m := by
  obtain ⟨om, hm, hn⟩ := h.m
  obtain ⟨RA, RS, hb⟩ := h.bk
  exact ⟨h.c.upd hu, h.r.upd hu, h.p.upd hu, ⟨om, hm.upd hu, hn⟩, h.ne, h.nb, ⟨RA, RS, hb.upd hu⟩⟩
theorem CpA.keep (h : CpA w0 w b b' bp g kc kr p vm m va l) (hu : Upd [] w w') : CpA w0 w' b b' bp g kc kr p vm m va l := by
  obtain ⟨om, hm, hn⟩ := h.m
  obtain ⟨own, lo, RA, RS, hb, ha, h3⟩ := h.a
  exact ⟨h.c.upd hu, h.r.upd hu, h.p.upd hu, ⟨om, hm.upd hu, hn⟩, h.ne, h.nb, ⟨own, lo, RA, RS, hb.upd hu, ha.upd hu, h3⟩⟩
theorem CpB.keep (h : CpB w0 w b b' bp g kc kr p vm m va vb l us om ob) (hu : Upd [] w w') : CpB w0 w' b b' bp g kc kr p vm m va vb l us om ob :=
  ⟨h.a.keep hu, ⟨h.om_.1.upd hu, h.om_.2⟩, h.ob_.upd hu, h.off⟩
/-- The program's end has moved, and said something fresh. -/
theorem Cp.said {own : List Nat} (h : Cp w0 w b b' bp g kc kr p vm m) (hc : CallAt w' b k1) (hs : SaysN w.heap.size w' va l own) (hu : Upd [b] w w') : CpA w0 w' b b' bp g k1 kr p vm m va l := by
  have hT := h.c.toT (lo := w0.heap.size) h.nb.1 hu
  have h0 := h.ups
  obtain ⟨om, hm, hn⟩ := h.m
  obtain ⟨RA, RS, hb⟩ := h.bk
  exact ⟨hc, h.r.updT hT (by decide) (by decide), h.p.updT hT (by decide) (by decide), ⟨om, hm.updT hT (by decide) (by decide), hn⟩, h.ne, h.nb,
    ⟨own, w.heap.size, RA, RS, hb.updT hT (by decide), hs, h0.size, hb.ltAvps, hb.ltSays⟩⟩
/-- Nothing is said. -/
theorem Cp.none_ (h : Cp w0 w b b' bp g kc kr p vm m) : ∃ om, CpB w0 w b b' bp g kc kr p vm m (.slice none 0 0) (.slice none 0 0) [] [] om [] := by
  have h0 := h.ups
  obtain ⟨RA, RS, hb⟩ := h.bk
  obtain ⟨om, hm⟩ := h.m
  exact ⟨om, ⟨h.c, h.r, h.p, h.m, h.ne, h.nb, ⟨[], w.heap.size, RA, RS, hb, SaysN.nil _ _, h0.size, hb.ltAvps, hb.ltSays⟩⟩, hm, ⟨rfl, Own.nil _ _ _, by simp⟩, by simp⟩
/-- What was said is let go. -/
theorem CpB.cp (h : CpB w0 w b b' bp g kc kr p vm m va vb l us om ob) : Cp w0 w b b' bp g kc kr p vm m := by
  obtain ⟨own, lo, RA, RS, hb, -⟩ := h.a.a
  exact ⟨h.a.c, h.a.r, h.a.p, h.a.m, h.a.ne, h.a.nb, ⟨RA, RS, hb⟩⟩
/-- The document's end has moved. -/
theorem CpA.rsaid {ob : List Nat} (h : CpA w0 w b b' bp g kc kr p vm m va l) (hr : RCallAt w' b' k1) (hs : RSaysAt w' vb l ob) (hf : ∀ x ∈ ob, w.heap.size ≤ x) (hu : Upd [b'] w w') : ∃ us om, CpB w0 w' b b' bp g kc k1 p vm m va vb l us om ob := by
  have hT := h.r.toT (lo := w0.heap.size) h.nb.2.1 hu
  obtain ⟨om, hm, hn⟩ := h.m
  obtain ⟨own, lo, RA, RS, hb, ha, h3⟩ := h.a
  obtain ⟨us, hs⟩ := hs.us
  obtain ⟨us0, _, hmo, _⟩ := id hm
  have hm2 := hm.updT hT (by decide) (by decide)
  exact ⟨us, om, ⟨h.c.updT hT (by decide) (by decide), hr, h.p.other h.r (Ne.symm h.ne) hu, ⟨om, hm2, hn⟩, h.ne, h.nb, ⟨own, lo, RA, RS, hb.updT hT (by decide), ha.updT hT (by decide) (by decide), h3⟩⟩, ⟨hm2, hn⟩, hs,
    fun x hx hx2 => by have := hf x hx; have := hmo.lt x hx2; omega⟩
/-- The peer has moved. -/
theorem CpB.psaid (h : CpB w0 w b b' bp g kc kr p vm m va vb l us om ob) (hp : RCallAt w' bp k1) (hu : Upd [bp] w w') : CpB w0 w' b b' bp g kc kr k1 vm m va vb l us om ob := by
  have hT := h.a.p.toT (lo := w0.heap.size) h.a.nb.2.2 hu
  obtain ⟨own, lo, RA, RS, hb, ha, h3⟩ := h.a.a
  have hm2 := h.om_.1.updT hT (by decide) (by decide)
  exact ⟨⟨h.a.c.updT hT (by decide) (by decide), h.a.r.other h.a.p h.a.ne hu, hp, ⟨om, hm2, h.om_.2⟩, h.a.ne, h.a.nb, ⟨own, lo, RA, RS, hb.updT hT (by decide), ha.updT hT (by decide) (by decide), h3⟩⟩, ⟨hm2, h.om_.2⟩, h.ob_.updT hT (by decide) (by decide), h.off⟩
theorem Cp.psaid (h : Cp w0 w b b' bp g kc kr p vm m) (hp : RCallAt w' bp k1) (hu : Upd [bp] w w') : Cp w0 w' b b' bp g kc kr k1 vm m := by
  have hT := h.p.toT (lo := w0.heap.size) h.nb.2.2 hu
  obtain ⟨om, hm, hn⟩ := h.m
  obtain ⟨RA, RS, hb⟩ := h.bk
  exact ⟨h.c.updT hT (by decide) (by decide), h.r.other h.p h.ne hu, hp, ⟨om, hm.updT hT (by decide) (by decide), hn⟩, h.ne, h.nb, ⟨RA, RS, hb.updT hT (by decide)⟩⟩
/-- The mail has grown. -/
theorem Cp.mailed {vm' : Value} {m' : List Sy} {om om' : List Nat} {xs : List Value} (h : Cp w0 w b b' bp g kc kr p vm m) (ho : Own w 91 2 vm m.length xs om) (hn : ∀ x ∈ om, w0.heap.size ≤ x) (hm : RSaysAt w' vm' m' om') (hu : Upd om w w')
    (hg : ∀ x ∈ om', x ∈ om ∨ w.heap.size ≤ x) : Cp w0 w' b b' bp g kc kr p vm' m' := by
  have hT : UpdT [91] w0.heap.size w w' := ho.updT_of hu hn
  have h0 := h.ups
  obtain ⟨RA, RS, hb⟩ := h.bk
  exact ⟨h.c.updT hT (by decide) (by decide), h.r.updT hT (by decide) (by decide), h.p.updT hT (by decide) (by decide), ⟨om', hm, fun x hx => (hg x hx).elim (hn x) (fun h => Nat.le_trans h0.size h)⟩, h.ne, h.nb, ⟨RA, RS, hb.updT hT (by decide)⟩⟩
theorem CpB.mailed {vm' : Value} {m' : List Sy} {om' : List Nat} {xs : List Value} (h : CpB w0 w b b' bp g kc kr p vm m va vb l us om ob) (ho : Own w 91 2 vm m.length xs om) (hm : RSaysAt w' vm' m' om') (hu : Upd om w w')
    (hg : ∀ x ∈ om', x ∈ om ∨ w.heap.size ≤ x) : CpB w0 w' b b' bp g kc kr p vm' m' va vb l us om' ob := by
  have hn := h.om_.2
  have hT : UpdT [91] w0.heap.size w w' := ho.updT_of hu hn
  have h0 := h.ups
  obtain ⟨own, lo, RA, RS, hbk, ha, h3⟩ := h.a.a
  have hn2 : ∀ x ∈ om', w0.heap.size ≤ x := fun x hx => (hg x hx).elim (hn x) (fun h => Nat.le_trans h0.size h)
  exact ⟨⟨h.a.c.updT hT (by decide) (by decide), h.a.r.updT hT (by decide) (by decide), h.a.p.updT hT (by decide) (by decide), ⟨om', hm, hn2⟩, h.a.ne, h.a.nb, ⟨own, lo, RA, RS, hbk.updT hT (by decide), ha.updT hT (by decide) (by decide), h3⟩⟩, ⟨hm, hn2⟩, h.ob_.off ho hu h.off,
    fun x hx hx2 => (hg x hx2).elim (h.off x hx) (fun h4 => by have := h.ob_.o.lt x hx; omega)⟩
theorem CpA.rlt (h : CpA w0 w b b' bp g kc kr p vm m va l) : b' < w.heap.size := h.r.lt

/-! ### the calls -/
theorem Cp.open_ {q : Nat} (h : Cp w0 w b b' bp g kc kr p vm m) (hk : KOk q kc) :
    Calls Tryz.prog 37 #[.pointer (some ⟨b, 0, none⟩)] w fun e w' => ∃ v, e = .returned v ∧ CpA w0 w' b b' bp g kc.openC.1 kr p vm m v kc.openC.2 ∧ Fr w0 w w' :=
  (open_any b kc w h.c hk.ok.m).mono fun e w' ⟨v, own, he, h1, h2, h3⟩ => ⟨v, he, h.said h2 h1 h3, (h.c.toT h.nb.1 h3).mono (by simp)⟩
theorem Cp.close_ {q : Nat} (h : Cp w0 w b b' bp g kc kr p vm m) (hk : KOk q kc) (code : Int) :
    Calls Tryz.prog 41 #[.pointer (some ⟨b, 0, none⟩), .int .i64 code] w fun e w' => ∃ v, e = .returned v ∧ CpA w0 w' b b' bp g (kc.close code).1 kr p vm m v (kc.close code).2 ∧ Fr w0 w w' :=
  (close_any b kc code w h.c hk.ok.m).mono fun e w' ⟨v, own, he, h1, h2, h3⟩ => ⟨v, he, h.said h2 h1 h3, (h.c.toT h.nb.1 h3).mono (by simp)⟩
theorem Cp.errors_ {q : Nat} (h : Cp w0 w b b' bp g kc kr p vm m) (hk : KOk q kc) (text : ByteArray) (hs : text.size ≤ maxLen) :
    Calls Tryz.prog 43 #[.pointer (some ⟨b, 0, none⟩), .string text] w fun e w' => ∃ v, e = .returned v ∧ CpA w0 w' b b' bp g kc kr p vm m v (kc.tell 15 34 text) ∧ Fr w0 w w' :=
  (errors_any b kc text w h.c hk.ok.m hs).mono fun e w' ⟨v, own, he, h1, h3⟩ => ⟨v, he, h.said (h.c.upd h3) h1 (h3.mono (by simp)), .of_nil h3⟩
theorem Cp.map_ {q : Nat} (h : Cp w0 w b b' bp g kc kr p vm m) (hk : KOk q kc) (text : ByteArray) (hs : text.size ≤ maxLen) :
    Calls Tryz.prog 45 #[.pointer (some ⟨b, 0, none⟩), .string text] w fun e w' => ∃ v, e = .returned v ∧ CpA w0 w' b b' bp g kc kr p vm m v (kc.tell 16 35 text) ∧ Fr w0 w w' :=
  (map_any b kc text w h.c hk.ok.m hs).mono fun e w' ⟨v, own, he, h1, h3⟩ => ⟨v, he, h.said (h.c.upd h3) h1 (h3.mono (by simp)), .of_nil h3⟩
theorem KOk.big {q : Nat} {k : K} (h : KOk q k) : Big k.id ∧ Big k.serial := by
  have h1 := h.id
  have h2 := h.ser
  exact ⟨⟨by omega, by omega⟩, ⟨by omega, by omega⟩⟩
theorem CpA.ropen {q : Nat} (h : CpA w0 w b b' bp g kc kr p vm m va l) (hk : KOk q kr) (hl : kr.openC.2 = l) :
    Calls Tryz.prog 38 #[.pointer (some ⟨b', 0, none⟩)] w fun e w' => ∃ v us om ob, e = .returned v ∧ CpB w0 w' b b' bp g kc kr.openC.1 p vm m va v l us om ob ∧ Fr w0 w w' := by
  subst hl
  exact (ropen_any b' kr hk.big (fun hs => hk.inv.p (.inl hs)) w h.r).mono fun e w' ⟨v, own, he, h1, hf, h2, h3⟩ => by
    obtain ⟨us, om, hh⟩ := h.rsaid h2 h1 hf h3
    exact ⟨v, us, om, own, he, hh, (h.r.toT h.nb.2.1 h3).mono (by simp)⟩
theorem CpA.rclose {q : Nat} (h : CpA w0 w b b' bp g kc kr p vm m va l) (hk : KOk q kr) (code : Int) (hc : Big code) (hl : (kr.close code).2 = l) :
    Calls Tryz.prog 42 #[.pointer (some ⟨b', 0, none⟩), .int .i64 code] w fun e w' => ∃ v us om ob, e = .returned v ∧ CpB w0 w' b b' bp g kc (kr.close code).1 p vm m va v l us om ob ∧ Fr w0 w w' := by
  subst hl
  exact (rclose_any b' kr hk.big.1 code hc w h.r).mono fun e w' ⟨v, own, he, h1, hf, h2, h3⟩ => by
    obtain ⟨us, om, hh⟩ := h.rsaid h2 h1 hf h3
    exact ⟨v, us, om, own, he, hh, (h.r.toT h.nb.2.1 h3).mono (by simp)⟩
theorem CpA.rtell (h : CpA w0 w b b' bp g kc kr p vm m va l) (kind value : Int) (hk : Big kind) (text : ByteArray) (hs : text.size ≤ maxLen) (hl : kr.tell kind value text = l) :
    Calls Tryz.prog 44 #[.pointer (some ⟨b', 0, none⟩), .int .i64 kind, .int .i64 value, .string text] w fun e w' => ∃ v us om ob, e = .returned v ∧ CpB w0 w' b b' bp g kc kr p vm m va v l us om ob ∧ Fr w0 w w' := by
  subst hl
  exact (rtell_any b' kr kind value hk text hs w h.r).mono fun e w' ⟨v, own, he, h1, hf, h3⟩ => by
    obtain ⟨us, om, hh⟩ := h.rsaid (h.r.upd h3) h1 hf (h3.mono (by simp))
    exact ⟨v, us, om, own, he, hh, .of_nil h3⟩
theorem Cp.take_ {q : Nat} (h : Cp w0 w b b' bp g kc kr p vm m) (hk : KOk (q + 1) kc) (t s ns nr : Int) (lm : List Av) (v : Value) {ov : List Nat} (hv : Own w 85 5 v lm.length (avCells lm) ov) (hs : ∀ a ∈ lm, a.val.size ≤ maxLen) (hn : lm.length ≤ 5000) :
    Calls Tryz.prog 46 #[.pointer (some ⟨b, 0, none⟩), .agg #[.int .i64 t, .int .i64 s, .int .i64 ns, .int .i64 nr, v]] w fun e w' =>
      ∃ v, e = .returned v ∧ CpA w0 w' b b' bp g (kc.take lm).1 kr p vm m v (kc.take lm).2 ∧ Fr w0 w w' :=
  (take_any b kc lm t s ns nr v w h.c (AvsAt.of_own hv) hs hk.ok (by omega) (fun W hu => AvsAt.of_own (hv.updT (h.c.toT (lo := w0.heap.size) h.nb.1 hu) (by decide)))).mono fun e w' ⟨v, own, he, h1, h2, h3⟩ =>
    ⟨v, he, h.said h2 h1 h3, (h.c.toT h.nb.1 h3).mono (by simp)⟩
theorem KOk.rtake_ {q : Nat} {k : K} (hk : KOk (q + 1) k) (b : Nat) (hb : w0.heap.size ≤ b) (t s ns nr : Int) (lm : List Av) (v : Value) (w : World) (h : RCallAt w b k) (hv : Src w0 w v lm) (hs : ∀ a ∈ lm, a.val.size ≤ maxLen) (hn : lm.length ≤ 5000) :
    Calls Tryz.prog 47 #[.pointer (some ⟨b, 0, none⟩), .agg #[.int .i64 t, .int .i64 s, .int .i64 ns, .int .i64 nr, v]] w (RSaidEnd w b (k.take lm)) := by
  have h1 := hk.ok.w1
  have h2 := hk.w
  have h3 := hk.ok.s1
  have h4 := hk.s
  have h5 := hk.ok.h
  exact rtake_any b k hk.big.1 hk.inv.st hk.inv.p (by omega) (by omega) (by omega) lm t s ns nr v w h hv.avs hs (by omega) (fun W hu => (hv.updT (h.toT hb hu) (by decide)).avs)
theorem CpA.rtake {q : Nat} (h : CpA w0 w b b' bp g kc kr p vm m va l) (hk : KOk (q + 1) kr) (t s ns nr : Int) (lm : List Av) (v : Value) (hv : Src w0 w v lm) (hs : ∀ a ∈ lm, a.val.size ≤ maxLen) (hn : lm.length ≤ 5000) (hl : (kr.take lm).2 = l) :
    Calls Tryz.prog 47 #[.pointer (some ⟨b', 0, none⟩), .agg #[.int .i64 t, .int .i64 s, .int .i64 ns, .int .i64 nr, v]] w fun e w' =>
      ∃ v us om ob, e = .returned v ∧ CpB w0 w' b b' bp g kc (kr.take lm).1 p vm m va v l us om ob ∧ Fr w0 w w' := by
  subst hl
  exact (hk.rtake_ b' h.nb.2.1 t s ns nr lm v w h.r hv hs hn).mono fun e w' ⟨v, own, he, h1, hf, h2, h3⟩ => by
    obtain ⟨us, om, hh⟩ := h.rsaid h2 h1 hf h3
    exact ⟨v, us, om, own, he, hh, (h.r.toT h.nb.2.1 h3).mono (by simp)⟩
theorem Cp.got_ {q : Nat} (h : Cp w0 w b b' bp g kc kr p vm m) (hk : KOk q kc) :
    Calls Tryz.prog 50 #[.pointer (some ⟨b, 0, none⟩)] w fun e w' => ∃ u own, e = .returned u ∧ Own w' 85 5 u kc.got.length (avCells kc.got) own ∧ (∀ x ∈ own, w.heap.size ≤ x) ∧ Upd [] w w' ∧ Cp w0 w' b b' bp g kc kr p vm m :=
  (got_any b kc w h.c hk.ok.m (by have := hk.gl; omega)).mono fun e w' ⟨u, own, he, h1, h2, h3⟩ => ⟨u, own, he, h1, h3, h2, h.keep h2⟩
/-- The values that were got come into the book. -/
theorem Cp.addGot {q : Nat} {w1 : World} {u : Value} {own : List Nat} (h : Cp w0 w b b' bp g kc kr p vm m) (h1 : Cp w0 w1 b b' bp g kc kr p vm m) (hu : Upd [] w1 w) (hk : KOk q kc) (ho : Own w 85 5 u kc.got.length (avCells kc.got) own) (hf : ∀ x ∈ own, w1.heap.size ≤ x) :
    Calls Tryz.prog 25 #[.pointer (some ⟨g, 0, none⟩), u] w fun e w' => e = .returned (.tuple #[]) ∧ Cp w0 w' b b' bp g kc kr p vm m ∧ Own w' 85 5 u kc.got.length (avCells kc.got) own := by
  obtain ⟨RA, RS, hb1⟩ := h1.bk
  have hb := hb1.upd hu
  refine (hb.addAvps ⟨u, kc.got, own⟩ (by unfold Held; rw [← avCells_bk]; exact ho) (Nat.le_trans hk.gl (by decide)) (fun k hk => Nat.le_trans h1.ups.size (hf k hk)) (fun d hd k hk hk2 => by have := hb1.ltAvps d hd k hk; have := hf k hk2; omega) (by simp) (by simp)).mono ?_
  rintro e w' ⟨he, h2, h3⟩
  obtain ⟨om, hm, hn⟩ := h.m
  exact ⟨he, ⟨h.c.updT h3 (by decide) (by decide), h.r.updT h3 (by decide) (by decide), h.p.updT h3 (by decide) (by decide), ⟨om, hm.updT h3 (by decide) (by decide), hn⟩, h.ne, h.nb, ⟨_, _, h2⟩⟩, ho.updT h3 (by decide)⟩
end
end Go.Proofs.YtglafpdealjlnaaGreat
