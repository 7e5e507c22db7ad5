/- CallMeets: what is said, put behind nothing; the state of the walk. -/
import Derived.Test.YtihedbaomingpaaCallMeP
namespace Go.Proofs.Ytihedbaomingpaa
open Go.RowKit
set_option linter.unusedSimpArgs false
set_option linter.unusedVariables false
set_option maxRecDepth 100000

theorem sayCells_one (l : List Sy) (us : List Value) (h : ∀ u ∈ us, u.oneCell' = true) : ∀ x ∈ sayCells l us, x.oneCell' = true := by
  induction l generalizing us with
  | nil => intro x hx; cases us <;> simp [sayCells] at hx
  | cons p l ih =>
    intro x hx
    cases us with
    | nil => simp [sayCells] at hx
    | cons u us =>
      simp only [sayCells, List.mem_cons] at hx
      rcases hx with rfl | rfl | hx
      · rfl
      · exact h _ (List.mem_cons_self ..)
      · exact ih us (fun y hy => h y (List.mem_cons_of_mem _ hy)) x hx
theorem SaysAt.nil_of {w : World} {own : List Nat} {l : List Sy} {v : Value} (h : SaysAt w v l own) : ∃ us : List Value, us.length = l.length ∧ Rd w 2 v l.length (sayCells l us) := by
  obtain ⟨us, h1, h2, h3⟩ := h
  refine ⟨us, h1, h2.rd' (sayCells_one l us fun u hu => ?_)⟩
  obtain ⟨i, hi⟩ := List.mem_iff_getElem?.1 hu
  have hlt := (List.getElem?_eq_some_iff.1 hi).1
  obtain ⟨p, hp⟩ : ∃ p, l[i]? = some p := ⟨_, List.getElem?_eq_getElem (by omega)⟩
  obtain ⟨ou, h4⟩ := h3 i p u hp hi
  obtain ⟨ao, cap, rfl, -, -⟩ := h4.shape
  rfl
/-- What is said, put behind nothing. -/
theorem SaysAt.append_nil {P : Program} {w : World} {own : List Nat} {l : List Sy} {v : Value} (t ty : TypeId) (i : TypeInfo) (z : Value) (ht : P.underlying t = some (.slice 38)) (hi : P.info? 38 = some i) (hz : i.zero = some z)
    (hsize : i.size = 2) (hby : i.bytes = 32) (hzs : z.cells.size = 2) (h : SaysAt w v l own) (hl : l.length ≤ 1000) :
    ∃ v' w' own', (Builtin.append_ #[t, t] ty #[.slice none 0 0, v]).run P w = .ok v' w' ∧ SaysAt w' v' l own' ∧ (l = [] → v' = .slice none 0 0) ∧ Upd [] w w' := by
  obtain ⟨us, h1, hr⟩ := h.nil_of
  by_cases hl0 : l = []
  · subst hl0
    obtain ⟨us', h1', h2', h3'⟩ := h
    refine ⟨.slice none 0 0, w, [], ?_, SaysAt.nil w, fun _ => rfl, Upd.refl _ _⟩
    have e0 : sayCells [] us = [] := by cases us <;> rfl
    rw [e0] at hr
    have hr' : Rd w i.size v 0 [] := by rw [hsize]; exact hr
    exact run_append_nothing w t t ty 38 i ht hi none 0 0 (Nat.le_refl _) v (hr'.src ht)
  · obtain ⟨us, h1, h2, h3⟩ := id h
    obtain ⟨us2, g1, hr2⟩ := h.nil_of
    have hr3 : Rd w 2 v l.length (sayCells l us) := h2.rd' (sayCells_one l us fun u hu => by
      obtain ⟨i, hi⟩ := List.mem_iff_getElem?.1 hu
      have hlt := (List.getElem?_eq_some_iff.1 hi).1
      obtain ⟨p, hp⟩ : ∃ p, l[i]? = some p := ⟨_, List.getElem?_eq_getElem (by omega)⟩
      obtain ⟨ou, h4⟩ := h3 i p u hp hi
      obtain ⟨ao, cap, rfl, -, -⟩ := h4.shape
      rfl)
    obtain ⟨ao, cap, w', own', r1, r2, r3, r4⟩ := run_append_Rd (P := P) w t ty 38 i z 2 32 ht hi hz hsize hby hzs (by decide) (.slice none 0 0) 0 [] [] (Own.nil _ _ _) v l.length (sayCells l us) hr3 (by simp only [maxLen]; omega) (by omega)
    refine ⟨_, w', own', r1, ⟨us, h1, by simpa using r2, fun i p u hp hu => ?_⟩, fun e => absurd e hl0, r4⟩
    obtain ⟨ou, h4⟩ := h3 i p u hp hu
    exact ⟨ou, h4.upd r4 (by simp)⟩
/-- One of what is said, read; its values stay while calls are written. -/
theorem SaysAt.get_far {w : World} {v : Value} {l : List Sy} {own : List Nat} (h : SaysAt w v l own) (i : Nat) {p : Sy} (hi : l[i]? = some p) :
    ∃ g off cap u, v = .slice (some ⟨g, off, none⟩) l.length cap ∧ l.length ≤ cap ∧ cap ≤ maxLen ∧ w.cell? ⟨g, off + i * 2, none⟩ = some (.int .i64 p.1) ∧ w.cell? ⟨g, off + i * 2 + 1, none⟩ = some u ∧ AvsAt w u p.2 ∧
      ∀ W b k, CallAt w b k → Upd [b] w W → AvsAt W u p.2 := by
  obtain ⟨us, h1, h2, h3⟩ := h
  have hlt := (List.getElem?_eq_some_iff.1 hi).1
  obtain ⟨u, hu⟩ : ∃ u, us[i]? = some u := ⟨_, List.getElem?_eq_getElem (by omega)⟩
  obtain ⟨ou, h4⟩ := h3 i p u hi hu
  obtain ⟨g, off, cap, rfl, _, h5, h6, h7⟩ := h2.form (by omega)
  obtain ⟨g1, g2⟩ := sayCells_get l us i hi hu
  refine ⟨g, off, cap, u, rfl, h5, h6, h7 _ _ g1, by rw [Nat.add_assoc]; exact h7 _ _ g2, AvsAt.of_own h4, fun W b k hc hw => AvsAt.of_own (h4.upd hw ?_)⟩
  obtain ⟨vw, vg, ow, og, g1, _, _⟩ := hc
  intro x hx
  simp
  rintro rfl
  exact h4.ne_blk g1 (by decide) hx
theorem take_says (k : K) (l : List Av) : (k.take l).2.length ≤ 1000 := by
  have hn : (k.named l).2.length ≤ 1000 := by
    unfold K.named
    (repeat' split) <;> simp [K.fin]
  have hh : ∀ a b, (k.handle a b l).2.length ≤ 1000 := by
    intro a b
    unfold K.handle
    (repeat' split) <;> first | exact hn | simp
  unfold K.take
  (repeat' split) <;> first | exact hh _ _ | simp [K.fin]
/-- What the two ends are behind all rounds. -/
theorem me_end (x y : Int) (out : Bool) (wl : List Av) (hx : 1 ≤ x ∧ x ≤ 65535) (hy : 1 ≤ y ∧ y ≤ 65535) (h : ∀ a ∈ wl, a.must = false ∧ a.vendor ≠ 0) (hl : wl.length ≤ 50) :
    ∃ ka kb : K, meAt (meA1 x out wl, meB0 y out wl) [(0, meO x out)] 4 = ((ka, kb), []) ∧ meN (meA1 x out wl, meB0 y out wl) [(0, meO x out)] 4 = 3 ∧ ka.id = x ∧ ka.peer = y ∧ ka.state = 3 ∧ ka.made = true ∧
      kb.id = y ∧ kb.peer = x ∧ kb.state = 3 ∧ kb.made = true ∧ (if out = true then ka.got else kb.got) = meC out wl ∧ ka.got.length ≤ 1000000 ∧ kb.got.length ≤ 1000000 := by
  cases out
  · obtain ⟨t0, t1, t2, t3, t4⟩ := me_tab_false x y wl hx hy h
    refine ⟨meA2 x y false wl, meB2 x y wl, t4, by simp [meN, t0, t1, t2, t3], rfl, rfl, rfl, rfl, rfl, rfl, rfl, rfl, rfl, by simp [meA2], ?_⟩
    simp [meB2, meC]; omega
  · obtain ⟨t0, t1, t2, t3, t4⟩ := me_tab_true x y wl hx hy h
    refine ⟨meA3 x y wl, meB1 x y true wl, t4, by simp [meN, t0, t1, t2, t3], rfl, rfl, rfl, rfl, rfl, rfl, rfl, rfl, rfl, ?_, by simp [meB1]⟩
    simp [meA3, meC]; omega
structure MeSt (w wr : World) (ca cb : Nat) (s : (K × K) × List Sy) (v : Value) : Prop where
  a : CallAt wr ca s.1.1
  b : CallAt wr cb s.1.2
  says : ∃ own, SaysAt wr v s.2 own
  u : Upd [] w wr
structure MeS2 (w wr : World) (ca cb : Nat) (s : (K × K) × List Sy) (l : List Sy) (lv bv : Value) : Prop where
  a : CallAt wr ca s.1.1
  b : CallAt wr cb s.1.2
  says : ∃ own, SaysAt wr lv l own
  back : ∃ own, SaysAt wr bv s.2 own
  nil : s.2 = [] → bv = Value.slice none 0 0
  u : Upd [] w wr
/-- A message is taken and what is said put behind nothing: stage by stage. -/
def meS (w0 : World) (b : Nat) (p : K × List Sy) (vs : List Value) (w : World) : Prop := match vs with
  | [] => Upd [] w0 w
  | [v] => ∃ own, SaysAt w v p.2 own ∧ CallAt w b p.1 ∧ Upd [b] w0 w
  | [_, v] => ∃ own, SaysAt w v p.2 own ∧ (p.2 = [] → v = .slice none 0 0) ∧ CallAt w b p.1 ∧ Upd [b] w0 w
  | [_, _, v] => ∃ own, SaysAt w v p.2 own ∧ (p.2 = [] → v = .slice none 0 0) ∧ CallAt w b p.1 ∧ Upd [b] w0 w
  | _ => False
end Go.Proofs.Ytihedbaomingpaa
