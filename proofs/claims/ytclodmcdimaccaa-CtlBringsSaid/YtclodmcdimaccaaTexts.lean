/- The walk of the book's SameTexts, and texts in a slice. -/
import Derived.Test.YtclodmcdimaccaaProg
import Derived.Test.YtclodmcdimaccaaCtlP
import Derived.Test.YtclodmcdimaccaaRd
namespace Go.Proofs.Ytclodmcdimaccaa
open Go.RowKit
set_option linter.unusedSimpArgs false
set_option linter.unusedVariables false

theorem Own.rd {w : World} {e : TypeId} {size n : Nat} {v : Value} {xs : List Value} {own : List Nat} (h : Own w e size v n xs own) (h1 : ∀ u ∈ xs, u.oneCell' = true) : Rd w size v n xs := by
  obtain ⟨hl, h⟩ := id h
  rcases h with ⟨rfl, rfl, rfl⟩ | ⟨g, off, cap, cur, rfl, rfl, hb, hnc, hcm, hsz, ht⟩
  · exact ⟨none, 0, rfl, Nat.le_refl _, by simp [maxLen], hl, h1, fun h => by omega⟩
  · refine ⟨_, cap, rfl, hnc, hcm, hl, h1, fun hn => ⟨_, rfl, fun j u hj => ?_⟩⟩
    rw [add_plain', hb.cell]
    rw [← ht, List.getElem?_take] at hj
    split at hj
    · simpa [List.getElem?_drop] using hj
    · cases hj
theorem Own.texts {w : World} {n : Nat} {v : Value} {l : List ByteArray} {own : List Nat} {e : TypeId} (h : Own w e 1 v n (strs l) own) : Rd w 1 v n (strs l) := h.rd (strs_oneCell l)
theorem Rd.text {w : World} {n k : Nat} {ao : Option Addr} {cap : Nat} {l : List ByteArray} {s : ByteArray} (h : Rd w 1 (.slice ao n cap) n (strs l)) (hk : l[k]? = some s) : ∃ q, ao = some q ∧ w.cell? (q.add k) = some (.string s) := by
  obtain ⟨ao, c, e, h1, h2, h3, h4, h5⟩ := h
  injection e with e1 e2 e3
  subst e1
  have hn : 0 < n := by
    have := (List.getElem?_eq_some_iff.1 hk).1
    rw [strs_length] at h3
    omega
  obtain ⟨a, rfl, h6⟩ := h5 hn
  exact ⟨a, rfl, h6 k _ (by rw [strs_get, hk]; rfl)⟩
theorem Rd.item {w : World} {n k : Nat} {ao : Option Addr} {cap : Nat} {l : List Item} {i : Item} (h : Rd w 3 (.slice ao n cap) n (l.flatMap Item.cells)) (hk : l[k]? = some i) :
    ∃ q, ao = some q ∧ w.cell? (q.add (k * 3)) = some (.int .i64 i.ns) ∧ w.cell? ⟨(q.add (k * 3)).block, (q.add (k * 3)).off + 1, none⟩ = some (.int .i64 i.nr) ∧ w.cell? ⟨(q.add (k * 3)).block, (q.add (k * 3)).off + 2, none⟩ = some (.string i.body) := by
  obtain ⟨ao, c, e, h1, h2, h3, h4, h5⟩ := h
  injection e with e1 e2 e3
  subst e1
  have hget : ∀ (l : List Item) (k : Nat), l[k]? = some i → (l.flatMap Item.cells)[k * 3]? = some (.int .i64 i.ns) ∧ (l.flatMap Item.cells)[k * 3 + 1]? = some (.int .i64 i.nr) ∧ (l.flatMap Item.cells)[k * 3 + 2]? = some (.string i.body) ∧ 0 < (l.flatMap Item.cells).length := by
    intro l
    induction l with
    | nil => intro k hk; simp at hk
    | cons x l ih =>
      intro k hk
      cases k with
      | zero => simp at hk; subst hk; exact ⟨rfl, rfl, rfl, by simp [Item.cells]⟩
      | succ k =>
        obtain ⟨g1, g2, g3, g4⟩ := ih k (by simpa using hk)
        rw [List.flatMap_cons]
        refine ⟨?_, ?_, ?_, by rw [List.length_append]; omega⟩
        · rw [← g1, show (k + 1) * 3 = k * 3 + 3 by omega]; rfl
        · rw [← g2, show (k + 1) * 3 + 1 = k * 3 + 1 + 3 by omega]; rfl
        · rw [← g3, show (k + 1) * 3 + 2 = k * 3 + 2 + 3 by omega]; rfl
  obtain ⟨g1, g2, g3, g4⟩ := hget l k hk
  have hn : 0 < n := by omega
  obtain ⟨a, rfl, h6⟩ := h5 hn
  refine ⟨a, rfl, h6 _ _ g1, ?_, ?_⟩
  · rw [← add_off a (k * 3) 1 (by omega)]; exact h6 _ _ g2
  · rw [← add_off a (k * 3) 2 (by omega)]; exact h6 _ _ g3
theorem str_inj2 {s t : ByteArray} : s.toList = t.toList ↔ s = t := str_inj'

set_option maxHeartbeats 1000000 in
theorem sameTexts_quiet (l m : List ByteArray) (v u : Value) (w : World) (hl : Rd w 1 v l.length (strs l)) (hm : Rd w 1 u m.length (strs m)) :
    Calls Try.prog 16 #[v, u] w fun e w' => e = .returned (.bool (decide (l = m))) ∧ ∃ x, w' = w.drewN x := by
  obtain ⟨ao, cap, rfl, h1, h2, -⟩ := id hl
  obtain ⟨bo, cbp, rfl, g1, g2, -⟩ := id hm
  obtain ⟨n, hn⟩ : ∃ n, n = l.length := ⟨_, rfl⟩
  obtain ⟨j, hj⟩ : ∃ n, n = m.length := ⟨_, rfl⟩
  rw [← hn] at h1 hl
  rw [← hj] at g1 hm
  rw [← hn, ← hj]
  have HL := Lib.hid hl
  have HM := Lib.hid hm
  have HN := Lib.hid hn
  have HJ := Lib.hid hj
  simp only [maxLen] at h2 g2
  clear hl hn hm hj
  by_cases tn : n = j
  rotate_left
  · have hne : Hid (decide (l = m) = false) := by
      show _ = _
      rw [decide_eq_false_iff_not]
      rintro rfl
      exact tn (HN.out.trans HJ.out.symm)
    rw [hne.out]
    go_enter Try.func16, Try.ntmps16
    go_wp2
    go_ret
    exact ⟨rfl, 0, rfl⟩
  subst tn
  go_enter Try.func16, Try.ntmps16
  go_wp2
  go_loopg [5] n (fun x s5 wr => ∃ k : Nat, k + x = n ∧ s5 = .int .i64 k ∧ l.take k = m.take k ∧ ∃ x, wr = w.drewN x)
  case atStart => exact ⟨0, by omega, rfl, rfl, 0, rfl⟩
  case round =>
    obtain ⟨k, hk, rfl, hp, nd, rfl⟩ := hrel
    have hu : Upd [] w (w.drewN nd) := (Upd.refl _ _).drewN _
    by_cases t : k < n
    · obtain ⟨x, hx⟩ : ∃ x, l[k]? = some x := by
        have := HN.out
        exact ⟨_, List.getElem?_eq_getElem (by omega)⟩
      obtain ⟨y, hy⟩ : ∃ x, m[k]? = some x := by
        have := HJ.out
        exact ⟨_, List.getElem?_eq_getElem (by omega)⟩
      obtain ⟨q, rfl, c0⟩ := (HL.out.upd hu).text hx
      obtain ⟨q', rfl, d0⟩ := (HM.out.upd hu).text hy
      simp only [World.cell?_drewN] at c0 d0
      have HX := Lib.hid (And.intro hx (And.intro hy (And.intro hp hu)))
      clear hx hy hp hu
      go_wp2
      by_cases hk2 : (x.toList == y.toList) = true
      · go_region
        go_wp2
        go_roundg (n - (k + 1))
        case rel =>
          refine ⟨k + 1, by omega, by go_num, ?_, nd + 1, rfl⟩
          rw [List.take_add_one, List.take_add_one, HX.out.2.2.1, HX.out.1, HX.out.2.1]
          rw [str_inj2.1 (eq_of_beq hk2)]
        case measure => omega
      · have he : Hid (decide (l = m) = false) := by
          show _ = _
          rw [decide_eq_false_iff_not]
          rintro rfl
          have := HX.out.1.symm.trans HX.out.2.1
          injection this with this
          subst this
          exact hk2 (by simp)
        have hk3 : (x.toList == y.toList) = false := by simpa using hk2
        clear hk2
        go_region
        go_wp2
        go_ret
        rw [he.out]
        exact ⟨rfl, nd + 1, rfl⟩
    · obtain rfl : k = n := by omega
      have he : Hid (decide (l = m) = true) := by
        show _ = _
        rw [decide_eq_true_iff]
        have h7 := hp
        rw [List.take_of_length_le (by rw [← HN.out]; exact Nat.le_refl _), List.take_of_length_le (by rw [← HJ.out]; exact Nat.le_refl _)] at h7
        exact h7
      clear hp
      go_wp2
      go_ret
      rw [he.out]
      exact ⟨rfl, nd, rfl⟩
theorem sameTexts_any (l m : List ByteArray) (v u : Value) (w : World) (hl : Rd w 1 v l.length (strs l)) (hm : Rd w 1 u m.length (strs m)) :
    Calls Try.prog 16 #[v, u] w fun e w' => e = .returned (.bool (decide (l = m))) ∧ Upd [] w w' :=
  (sameTexts_quiet l m v u w hl hm).mono fun e w' ⟨he, x, hx⟩ => ⟨he, hx ▸ (Upd.refl _ _).drewN x⟩
end Go.Proofs.Ytclodmcdimaccaa
