/- Of CallPlays: the peer's words come behind the mail; the mail's first is taken off; what a call connects with. -/
import Derived.Test.YtglafpdealjlnaaGreatQCpQ
namespace Go.Proofs.YtglafpdealjlnaaGreat
open Go.RowKit
set_option linter.unusedSimpArgs false
set_option linter.unusedVariables false
set_option maxRecDepth 100000

theorem size_rsay (W : World) : (sizeOf (Tryz.prog.elem 78)).run Tryz.prog W = .ok 2 W := by kernel_rfl
section
variable {w0 w w' : World} {b b' bp g : Nat} {kc kr p k1 : K} {vm va vb vq : Value} {m l lq : List Sy} {us : List Value} {om ob oq : List Nat}
/-- Two lists one behind the other, the first in its own place or made anew. -/
theorem mail_append (hm : RSaysAt w vm m om) (hq : RSaysAt w vq lq oq) (hn : m.length + lq.length ≤ 100000) (ty : TypeId) :
    ∃ ao cap w' om', (Builtin.append_ #[78, 78] ty #[vm, vq]).run Tryz.prog w = .ok (.slice ao (m.length + lq.length) cap) w' ∧ RSaysAt w' (.slice ao (m.length + lq.length) cap) (m ++ lq) om' ∧ (∀ x ∈ om', x ∈ om ∨ w.heap.size ≤ x) ∧ Upd om w w' ∧
      ∃ xs, Own w 91 2 vm m.length xs om := by
  obtain ⟨i0, hi, hz0, hz1, hz2⟩ := info_parts info_rsay
  obtain ⟨us1, a1, a2, a3⟩ := hm
  obtain ⟨us2, c1, c2, c3⟩ := hq
  have hr : Rd w 2 vq lq.length (sayCells lq us2) := c2.rdB (says_one c3)
  obtain ⟨ao, cap, w', om', hrun, h2, h3, h4⟩ := run_append_Rd (P := Tryz.prog) w 78 ty 91 i0 _ 2 32 Tryz.underlying78 hi hz0 hz1 hz2 rfl (by decide) vm m.length _ om a2 vq lq.length _ hr (by simp only [maxLen]; omega) (by omega)
  exact ⟨ao, cap, w', om', hrun, RSaysAt.cat (v2 := vq) (o2 := oq) a1 c1 a3 c3 a2 h4 h2, h3, h4, _, a2⟩
theorem Cp.append (h : Cp w0 w b b' bp g kc kr p vm m) (hq : RSaysAt w vq lq oq) (hn : m.length + lq.length ≤ 100000) (ty : TypeId) :
    ∃ ao cap w', (Builtin.append_ #[78, 78] ty #[vm, vq]).run Tryz.prog w = .ok (.slice ao (m.length + lq.length) cap) w' ∧ Cp w0 w' b b' bp g kc kr p (.slice ao (m.length + lq.length) cap) (m ++ lq) ∧ Fr w0 w w' := by
  obtain ⟨om, hm, hmn⟩ := h.m
  obtain ⟨ao, cap, w', om', hrun, h2, h3, h4, xs, ho⟩ := mail_append hm hq hn ty
  exact ⟨ao, cap, w', hrun, h.mailed ho hmn h2 h4 h3, (ho.updT_of (lo := w0.heap.size) h4 hmn).mono (by simp)⟩
theorem CpB.append (h : CpB w0 w b b' bp g kc kr p vm m va vb l us om ob) (hq : RSaysAt w vq lq oq) (hn : m.length + lq.length ≤ 100000) (ty : TypeId) :
    ∃ ao cap w' om', (Builtin.append_ #[78, 78] ty #[vm, vq]).run Tryz.prog w = .ok (.slice ao (m.length + lq.length) cap) w' ∧ CpB w0 w' b b' bp g kc kr p (.slice ao (m.length + lq.length) cap) (m ++ lq) va vb l us om' ob := by
  obtain ⟨ao, cap, w', om', hrun, h2, h3, h4, xs, ho⟩ := mail_append h.om_.1 hq hn ty
  exact ⟨ao, cap, w', om', hrun, h.mailed ho h2 h4 h3⟩
/-- The peer begins, or takes what was said. -/
theorem Cp.popen {q : Nat} (h : Cp w0 w b b' bp g kc kr p vm m) (hk : KOk q p) :
    Calls Tryz.prog 38 #[.pointer (some ⟨bp, 0, none⟩)] w fun e w' => ∃ v oq, e = .returned v ∧ Cp w0 w' b b' bp g kc kr p.openC.1 vm m ∧ RSaysAt w' v p.openC.2 oq ∧ Fr w0 w w' :=
  (ropen_any bp p hk.big (fun hs => hk.inv.p (.inl hs)) w h.p).mono fun e w' ⟨v, own, he, h1, hf, h2, h3⟩ => ⟨v, own, he, h.psaid h2 h3, h1, (h.p.toT h.nb.2.2 h3).mono (by simp)⟩
theorem CpB.ptake {q : Nat} (h : CpB w0 w b b' bp g kc kr p vm m va vb l us om ob) (hk : KOk (q + 1) p) (t s ns nr : Int) (lm : List Av) (v : Value) (hv : Src w0 w v lm) (hs : ∀ a ∈ lm, a.val.size ≤ maxLen) (hn : lm.length ≤ 5000) :
    Calls Tryz.prog 47 #[.pointer (some ⟨bp, 0, none⟩), .agg #[.int .i64 t, .int .i64 s, .int .i64 ns, .int .i64 nr, v]] w fun e w' => ∃ v oq, e = .returned v ∧ CpB w0 w' b b' bp g kc kr (p.take lm).1 vm m va vb l us om ob ∧ RSaysAt w' v (p.take lm).2 oq :=
  (hk.rtake_ bp h.a.nb.2.2 t s ns nr lm v w h.a.p hv hs hn).mono fun e w' ⟨v, own, he, h1, hf, h2, h3⟩ => ⟨v, own, he, h.psaid h2 h3, h1⟩
/-- Blocks of other types are written. -/
theorem Cp.updT {T : List TypeId} (h : Cp w0 w b b' bp g kc kr p vm m) (hu : UpdT T w0.heap.size w w') (h1 : 193 ∉ T) (h2 : 101 ∉ T) (h3 : 91 ∉ T) (h4 : 85 ∉ T) (h5 : 49 ∉ T) (h6 : 22 ∉ T) (h7 : 191 ∉ T) (h8 : 81 ∉ T) : Cp w0 w' b b' bp g kc kr p vm m := by
  obtain ⟨om, hm, hn⟩ := h.m
  obtain ⟨RA, RS, hb⟩ := h.bk
  refine ⟨h.c.updT hu h1 h4, h.r.updT hu h2 h4, h.p.updT hu h2 h4, ⟨om, hm.updT hu h3 h4, hn⟩, h.ne, h.nb, ⟨RA, RS, hb.updT hu fun t ht hm => ?_⟩⟩
  simp only [List.mem_cons, List.not_mem_nil, or_false] at hm
  rcases hm with rfl | rfl | rfl | rfl | rfl | rfl
  · exact h5 ht
  · exact h4 ht
  · exact h6 ht
  · exact h7 ht
  · exact h8 ht
  · exact h4 ht
/-- One of the things that the document's end said. -/
theorem RSaysU.get {v : Value} (h : RSaysU w v l us ob) (i : Nat) {q : Sy} {u : Value} (hi : l[i]? = some q) (hu : us[i]? = some u) :
    ∃ a cap, v = .slice (some a) l.length cap ∧ l.length ≤ cap ∧ cap ≤ maxLen ∧ (∀ W ob', RSaysU W v l us ob' → W.cell? (a.add (i * 2)) = some (.int .i64 q.1) ∧ W.cell? ⟨(a.add (i * 2)).block, (a.add (i * 2)).off + 1, none⟩ = some u) ∧ ∃ ou, Own w 85 5 u q.2.length (avCells q.2) ou := by
  have hlt := (List.getElem?_eq_some_iff.1 hi).1
  obtain ⟨g, off, cap, rfl, _, h5, h6, h7⟩ := h.o.form (by omega)
  refine ⟨⟨g, off, none⟩, cap, rfl, h5, h6, fun W ob' hW => ?_, h.a i q u hi hu⟩
  obtain ⟨g2, off2, cap2, hv, _, _, _, h8⟩ := hW.o.form (by omega)
  injection hv with hv _ _
  injection hv with hv
  injection hv with hv1 hv2
  subst hv1 hv2
  obtain ⟨z0, z1⟩ := sayCells_get l us i hi hu
  rw [add_plain']
  exact ⟨h8 _ _ z0, by have h9 := h8 _ _ z1; rw [← Nat.add_assoc] at h9; exact h9⟩
/-- A slice without its first. -/
theorem Own.tail1 {e : TypeId} {size n cap : Nat} {ao : Option Addr} {xs : List Value} {own : List Nat} (h : Own w e size (.slice ao n cap) n xs own) (hn : 0 < n) (hs : 0 < size) : Own w e size (sliced ao 1 n cap size) (n - 1) (xs.drop size) own := by
  rcases h.2 with ⟨hv, h0, _⟩ | ⟨g', off', cap', cur, hv, ho, hg, hnc, hc, hsz, ht⟩
  · omega
  · injection hv with h1 h2 h3
    subst h3 h1
    have hx := h.1
    have hns : n * size = (n - 1) * size + size := by
      obtain ⟨k, rfl⟩ : ∃ k, n = k + 1 := ⟨n - 1, by omega⟩
      simp [Nat.add_mul]
    refine ⟨by rw [List.length_drop, hx]; omega, .inr ?_⟩
    unfold sliced
    by_cases hc1 : cap = 1
    · rw [if_pos hc1]
      obtain rfl : n = 1 := by omega
      refine ⟨g', off', cap - 1, cur, rfl, ho, hg, by omega, by omega, by rw [hc1]; omega, ?_⟩
      simp only [Nat.sub_self, Nat.zero_mul, List.take_zero]
      rw [List.drop_eq_nil_of_le (by rw [hx]; omega)]
    · rw [if_neg hc1]
      have hcs : cap * size = (cap - 1) * size + size := by
        obtain ⟨k, rfl⟩ : ∃ k, cap = k + 1 := ⟨cap - 1, by omega⟩
        simp [Nat.add_mul]
      refine ⟨g', off' + size, cap - 1, cur, by rw [Option.map_some, add_plain', Nat.one_mul], ho, hg, by omega, by omega, by omega, ?_⟩
      rw [← ht, List.drop_take, List.drop_drop]
      congr 1
      omega
theorem RSaysAt.tail1 {ao : Option Addr} {cap : Nat} {s : Sy} (h : RSaysAt w (.slice ao (m.length + 1) cap) (s :: m) om) : RSaysAt w (sliced ao 1 (m.length + 1) cap 2) m om := by
  obtain ⟨us, h1, h2, h3⟩ := h
  match us, h1 with
  | u :: us, h1 =>
    refine ⟨us, by simpa using h1, ?_, fun i p x hi hx => h3 (i + 1) p x (by simpa using hi) (by simpa using hx)⟩
    have h4 := h2.tail1 (by omega) (by omega)
    simpa [sayCells] using h4
theorem Cp.tail {ao : Option Addr} {cap : Nat} {s : Sy} (h : Cp w0 w b b' bp g kc kr p (.slice ao (m.length + 1) cap) (s :: m)) : Cp w0 w b b' bp g kc kr p (sliced ao 1 (m.length + 1) cap 2) m := by
  obtain ⟨om, hm, hn⟩ := h.m
  exact ⟨h.c, h.r, h.p, ⟨om, hm.tail1, hn⟩, h.ne, h.nb, h.bk⟩
/-- The mail's first. -/
theorem Cp.first {s : Sy} (h : Cp w0 w b b' bp g kc kr p vm (s :: m)) :
    ∃ gm off cap u, vm = .slice (some ⟨gm, off, none⟩) (m.length + 1) cap ∧ m.length + 1 ≤ cap ∧ cap ≤ maxLen ∧ w.cell? ⟨gm, off, none⟩ = some (.int .i64 s.1) ∧ w.cell? ⟨gm, off + 1, none⟩ = some u ∧ Src w0 w u s.2 ∧ (∃ cs, Blk w gm 91 cs) ∧ ∃ ao n c, u = .slice ao n c := by
  obtain ⟨om, ⟨us, h1, h2, h3⟩, hn⟩ := h.m
  match us, h1 with
  | u :: us, h1 =>
    obtain ⟨ou, ho⟩ := h3 0 s u rfl rfl
    obtain ⟨aq, cq, hq, -, -⟩ := ho.shape
    obtain ⟨gm, off, cap, hv, hom, h5, h6, h7⟩ := h2.form (by simp)
    obtain ⟨cs, hb⟩ := h2.typ gm (by rw [hom]; simp)
    refine ⟨gm, off, cap, u, hv, h5, h6, ?_, ?_, .inr ⟨⟨ou, ho⟩, h.ups⟩, ⟨cs, hb⟩, aq, _, cq, hq⟩
    · have := h7 0 (.int .i64 s.1) rfl
      simpa using this
    · exact h7 1 u rfl
end
/-! ### what a call connects with -/
/-- With is on its way: the ends at work (the peer, the mail, the book lie as they lay at w1), values lent. -/
structure CpW (w0 w1 w : World) (b b' bp g : Nat) (kc kr kc' kr' p : K) (vm : Value) (m : List Sy) (X : List Nat) : Prop where
  base : Cp w0 w1 b b' bp g kc kr p vm m
  u : Upd [b, b'] w1 w
  n : ∀ x ∈ X, w1.heap.size ≤ x ∧ x < w.heap.size
  t : ∀ x ∈ X, ∃ cs, Blk w x 85 cs
  c : CallOff X w b kc'
  r : RCallOff X w b' kr'
section
variable {w0 w1 w w' : World} {b b' bp g : Nat} {kc kr kc' kr' p k1 : K} {vm : Value} {m : List Sy} {X : List Nat}
theorem CpW.ups (h : CpW w0 w1 w b b' bp g kc kr kc' kr' p vm m X) : Upd [] w0 w :=
  h.base.ups.trans' h.u fun x hx => .inr (by
    simp at hx
    rcases hx with rfl | rfl
    · exact h.base.nb.1
    · exact h.base.nb.2.1)
theorem Cp.lent (h : Cp w0 w1 b b' bp g kc kr p vm m) (hu : Upd [] w1 w) (hn : ∀ x ∈ X, w1.heap.size ≤ x) (ht : ∀ x ∈ X, ∃ cs, Blk w x 85 cs) : CpW w0 w1 w b b' bp g kc kr kc kr p vm m X :=
  ⟨h, hu.mono (by simp), fun x hx => ⟨hn x hx, (ht x hx).elim fun cs hb => hb.lt⟩, ht, h.c.off hu hn, h.r.off hu hn⟩
theorem CpW.keep (h : CpW w0 w1 w b b' bp g kc kr kc' kr' p vm m X) (hu : Upd [] w w') : CpW w0 w1 w' b b' bp g kc kr kc' kr' p vm m X :=
  ⟨h.base, h.u.trans (hu.mono (by simp)), fun x hx => ⟨(h.n x hx).1, Nat.lt_of_lt_of_le (h.n x hx).2 hu.size⟩, fun x hx => (h.t x hx).elim fun cs hb => ⟨cs, hb.upd hu (by simp)⟩, h.c.upd hu (by simp) (by simp), h.r.upd hu (by simp) (by simp)⟩
theorem CpW.bne (h : CpW w0 w1 w b b' bp g kc kr kc' kr' p vm m X) : b ≠ b' := by
  obtain ⟨vw, vg, hb⟩ := h.c.at_.cells_
  obtain ⟨vw', vg', hb'⟩ := h.r.at_.cells_
  exact hb.ne_ hb' (by decide)
/-- The lent values are written. -/
theorem CpW.write (h : CpW w0 w1 w b b' bp g kc kr kc' kr' p vm m X) (hu : Upd X w w') (ht : ∀ x ∈ X, ∃ cs, Blk w' x 85 cs) : CpW w0 w1 w' b b' bp g kc kr kc' kr' p vm m X := by
  obtain ⟨vw, vg, hb⟩ := h.c.at_.cells_
  obtain ⟨vw', vg', hb'⟩ := h.r.at_.cells_
  have hbx : b ∉ X := fun hx => (h.t b hx).elim fun cs h2 => hb.ne_ h2 (by decide) rfl
  have hbx' : b' ∉ X := fun hx => (h.t b' hx).elim fun cs h2 => hb'.ne_ h2 (by decide) rfl
  exact ⟨h.base, h.u.trans' hu (fun x hx => .inr (h.n x hx).1), fun x hx => ⟨(h.n x hx).1, Nat.lt_of_lt_of_le (h.n x hx).2 hu.size⟩, ht, h.c.upd hu hbx (fun x hx => .inl hx), h.r.upd hu hbx' (fun x hx => .inl hx)⟩
theorem CpW.with_ {q : Nat} (h : CpW w0 w1 w b b' bp g kc kr kc' kr' p vm m X) (hk : KOk q kc') (l : List Av) (v : Value) (hl : AvsAt w v l) (hlen : l.length ≤ 1000) :
    Calls Tryz.prog 39 #[.pointer (some ⟨b, 0, none⟩), v] w fun e w' => e = .returned (.tuple #[]) ∧ CpW w0 w1 w' b b' bp g kc kr { kc' with with_ := l } kr' p vm m X ∧ UpdT [193] w0.heap.size w w' := by
  obtain ⟨vw, vg, hb⟩ := h.c.at_.cells_
  refine (with_off X b kc' l v w h.c (fun x hx => (h.n x hx).2) hk.ok.m hl (by omega)).mono ?_
  rintro e w' ⟨he, h2, h3⟩
  refine ⟨he, ⟨h.base, h.u.trans (h3.mono (by simp)), fun x hx => ⟨(h.n x hx).1, Nat.lt_of_lt_of_le (h.n x hx).2 h3.size⟩, fun x hx => (h.t x hx).elim fun cs h4 => ⟨cs, h4.upd h3 (by simp; rintro rfl; exact hb.ne_ h4 (by decide) rfl)⟩, h2, h.r.upd h3 (by simpa using (Ne.symm h.bne)) (fun x hx => .inr ?_)⟩, h.c.at_.toT h.base.nb.1 h3⟩
  simp at hx; subst hx
  exact ⟨_, _, hb, by decide⟩
theorem CpW.rwith (h : CpW w0 w1 w b b' bp g kc kr kc' kr' p vm m X) (l : List Av) (v : Value) (hl : AvsAt w v l) (hlen : l.length ≤ 1000) :
    Calls Tryz.prog 40 #[.pointer (some ⟨b', 0, none⟩), v] w fun e w' => e = .returned (.tuple #[]) ∧ CpW w0 w1 w' b b' bp g kc kr kc' { kr' with with_ := l } p vm m X ∧ UpdT [101] w0.heap.size w w' := by
  obtain ⟨vw, vg, hb⟩ := h.r.at_.cells_
  refine (rwith_off X b' kr' l v w h.r (fun x hx => (h.n x hx).2) hl (by omega)).mono ?_
  rintro e w' ⟨he, h2, h3⟩
  refine ⟨he, ⟨h.base, h.u.trans (h3.mono (by simp)), fun x hx => ⟨(h.n x hx).1, Nat.lt_of_lt_of_le (h.n x hx).2 h3.size⟩, fun x hx => (h.t x hx).elim fun cs h4 => ⟨cs, h4.upd h3 (by simp; rintro rfl; exact hb.ne_ h4 (by decide) rfl)⟩, h.c.upd h3 (by simpa using h.bne) (fun x hx => .inr ?_), h2⟩, h.r.at_.toT h.base.nb.2.1 h3⟩
  simp at hx; subst hx
  exact ⟨_, _, hb, by decide⟩
/-- With is over. -/
theorem CpW.done (h : CpW w0 w1 w b b' bp g kc kr kc' kr' p vm m X) : Cp w0 w b b' bp g kc' kr' p vm m := by
  have hT : UpdT [193, 101] w0.heap.size w1 w := by
    obtain ⟨vw, vg, hb⟩ := h.base.c.cells_
    obtain ⟨vw', vg', hb'⟩ := h.base.r.cells_
    refine .of_upd h.u fun x hx _ => ?_
    simp at hx
    rcases hx with rfl | rfl
    · exact ⟨h.base.nb.1, _, _, hb, by simp⟩
    · exact ⟨h.base.nb.2.1, _, _, hb', by simp⟩
  obtain ⟨om, hm, hn⟩ := h.base.m
  obtain ⟨RA, RS, hbk⟩ := h.base.bk
  refine ⟨h.c.at_, h.r.at_, ?_, ⟨om, hm.updT hT (by decide) (by decide), hn⟩, h.base.ne, h.base.nb, ⟨RA, RS, hbk.updT hT (by decide)⟩⟩
  obtain ⟨vw, vg, hb⟩ := h.base.c.cells_
  obtain ⟨vw', vg', hb'⟩ := h.base.r.cells_
  obtain ⟨pw, pg, ow, og, p1, p2, p3⟩ := h.base.p
  have hF : ∀ {x : Nat} {v : Value} {n : Nat} {xs : List Value} {own : List Nat}, Own w1 85 5 v n xs own → x ∈ own → x ∉ [b, b'] := by
    intro x v n xs own ho hx hx2
    simp at hx2
    rcases hx2 with rfl | rfl
    · exact ho.ne_blk hb (by decide) hx
    · exact ho.ne_blk hb' (by decide) hx
  exact ⟨pw, pg, ow, og, p1.upd h.u (by simp; exact ⟨p1.ne_ hb (by decide), Ne.symm h.base.ne⟩), p2.upd h.u (fun x hx => hF p2 hx), p3.upd h.u (fun x hx => hF p3 hx)⟩
end
end Go.Proofs.YtglafpdealjlnaaGreat
