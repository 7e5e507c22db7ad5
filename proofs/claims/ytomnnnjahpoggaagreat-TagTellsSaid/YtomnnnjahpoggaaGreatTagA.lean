/- The walks of tag.Find, tag.Same. -/
import Derived.Test.YtomnnnjahpoggaaGreatProg
import Derived.Test.YtomnnnjahpoggaaGreatPairs
namespace Go.Proofs.YtomnnnjahpoggaaGreat
open Go.RowKit

/-- The first text of a kind, and how many there are. -/
def findTg (kind : Int) : List Tg → ByteArray × Nat → ByteArray × Nat
  | [], p => p
  | t :: l, p => findTg kind l (if t.k ≠ kind then p else if p.2 = 0 then (t.s, p.2 + 1) else (p.1, p.2 + 1))

set_option maxHeartbeats 1000000 in
theorem find_any (l : List Tg) (v : Value) (kind : Int) (w : World) (hl : TgsAt w v l) :
    Calls Tryz.prog 15 #[v, .int .i64 kind] w fun e w' => e = .returned (.tuple #[.string (findTg kind l (⟨#[]⟩, 0)).1, .int .i64 (findTg kind l (⟨#[]⟩, 0)).2]) ∧ Upd [] w w' := by
  obtain ⟨ao, cap, rfl, h1, h2, h3⟩ := id hl
  obtain ⟨n, hn⟩ : ∃ n, n = l.length := ⟨_, rfl⟩
  rw [← hn] at h1
  rw [← hn]
  have HL := Lib.hid hl
  have HN := Lib.hid hn
  simp only [maxLen] at h2
  clear h3 hl hn
  go_enter Tryz.func15, Tryz.ntmps15
  go_wp2
  go_loopg [6, 7, 12] n (fun m s6 s7 s12 wr => ∃ k : Nat, k + m = n ∧ s12 = .int .i64 k ∧ ∃ p : ByteArray × Nat, s6 = .string p.1 ∧ s7 = .int .i64 p.2 ∧ p.2 ≤ k ∧ findTg kind (l.drop k) p = findTg kind l (⟨#[]⟩, 0) ∧ Upd [] w wr)
  case atStart => exact ⟨0, by omega, rfl, (⟨#[]⟩, 0), rfl, rfl, by simp, rfl, Upd.refl _ _⟩
  case round =>
    obtain ⟨k, hk, rfl, p, rfl, rfl, hp, hf, hu⟩ := hrel
    by_cases t : k < n
    · obtain ⟨x, hx⟩ : ∃ x, l[k]? = some x := by
        have := HN.out
        exact ⟨_, List.getElem?_eq_getElem (by omega)⟩
      obtain ⟨ao', cap', e0, _, _, h3⟩ := HL.out.upd hu
      injection e0 with e0 _ e2
      subst e0 e2
      obtain ⟨q, rfl, c0, c1⟩ := h3 k x hx
      clear h3
      have hd : l.drop k = x :: l.drop (k + 1) := by
        obtain ⟨h5, h6⟩ := List.getElem?_eq_some_iff.1 hx
        rw [List.drop_eq_getElem_cons h5, h6]
      rw [hd, findTg] at hf
      have HF := Lib.hid hf
      have HU := Lib.hid (hu.alloc (Obj.cells #[Value.int IntKind.i64 x.k, Value.string x.s] 63))
      clear hf hd hu hx
      by_cases t1 : x.k = kind
      · rw [t1] at HU
        by_cases t2 : p.2 = 0
        · go_wp2
          go_roundg (n - (k + 1))
          case rel => exact ⟨k + 1, by omega, by go_num, (x.s, p.2 + 1), rfl, by go_num, by simp only; omega, by rw [← HF.out, if_neg (by simp [t1]), if_pos t2], HU.out⟩
          case measure => omega
        · go_wp2
          go_roundg (n - (k + 1))
          case rel => exact ⟨k + 1, by omega, by go_num, (p.1, p.2 + 1), rfl, by go_num, by simp only; omega, by rw [← HF.out, if_neg (by simp [t1]), if_neg t2], HU.out⟩
          case measure => omega
      · go_wp2
        go_roundg (n - (k + 1))
        case rel => exact ⟨k + 1, by omega, by go_num, p, rfl, rfl, by omega, by rw [← HF.out, if_pos t1], HU.out⟩
        case measure => omega
    · obtain rfl : k = n := by omega
      have hd : l.drop k = [] := by rw [HN.out]; simp
      rw [hd] at hf
      have HF := Lib.hid hf
      clear hf hd
      go_wp2
      go_ret2
      rw [← HF.out]
      exact ⟨rfl, hu⟩

set_option maxHeartbeats 1000000 in
theorem equal_any (l m : List Tg) (v u : Value) (w : World) (hl : TgsAt w v l) (hm : TgsAt w u m) :
    Calls Tryz.prog 33 #[v, u] w fun e w' => e = .returned (.bool (decide (l = m))) ∧ Upd [] w w' := by
  obtain ⟨ao, cap, rfl, h1, h2, h3⟩ := id hl
  obtain ⟨bo, cbp, rfl, g1, g2, g3⟩ := id hm
  obtain ⟨n, hn⟩ : ∃ n, n = l.length := ⟨_, rfl⟩
  obtain ⟨j, hj⟩ : ∃ n, n = m.length := ⟨_, rfl⟩
  rw [← hn] at h1
  rw [← hj] at g1
  rw [← hn, ← hj]
  have HL := Lib.hid hl
  have HM := Lib.hid hm
  have HN := Lib.hid hn
  have HJ := Lib.hid hj
  simp only [maxLen] at h2 g2
  clear h3 g3 hl hn hm hj
  by_cases tn : n = j
  rotate_left
  · have hne : Hid (decide (l = m) = false) := by
      show _ = _
      rw [decide_eq_false_iff_not]
      rintro rfl
      exact tn (HN.out.trans HJ.out.symm)
    rw [hne.out]
    go_enter Tryz.func33, Tryz.ntmps33
    go_wp2
    go_ret
    exact ⟨rfl, Upd.refl _ _⟩
  subst tn
  go_enter Tryz.func33, Tryz.ntmps33
  go_wp2
  go_loopg [13] n (fun x s13 wr => ∃ k : Nat, k + x = n ∧ s13 = .int .i64 k ∧ l.take k = m.take k ∧ Upd [] w wr)
  case atStart => exact ⟨0, by omega, rfl, rfl, Upd.refl _ _⟩
  case round =>
    obtain ⟨k, hk, rfl, hp, hu⟩ := hrel
    by_cases t : k < n
    · obtain ⟨x, hx⟩ : ∃ x, l[k]? = some x := by
        have := HN.out
        exact ⟨_, List.getElem?_eq_getElem (by omega)⟩
      obtain ⟨y, hy⟩ : ∃ x, m[k]? = some x := by
        have := HJ.out
        exact ⟨_, List.getElem?_eq_getElem (by omega)⟩
      obtain ⟨ao', cap', e0, _, _, h3⟩ := HL.out.upd hu
      injection e0 with e0 _ e2
      subst e0 e2
      obtain ⟨q, rfl, c0, c1⟩ := h3 k x hx
      clear h3
      obtain ⟨ao', cap', e0, _, _, h3⟩ := HM.out.upd hu
      injection e0 with e0 _ e2
      subst e0 e2
      obtain ⟨q', rfl, d0, d1⟩ := h3 k y hy
      clear h3
      have HX := Lib.hid (And.intro hx (And.intro hy (And.intro hp hu)))
      clear hx hy hp hu
      go_wp2
      by_cases hk : x.k = y.k ∧ x.s.toList = y.s.toList
      · obtain ⟨hk1, hk2⟩ := hk
        go_region
        go_wp2
        go_roundg (n - (k + 1))
        case rel =>
          refine ⟨k + 1, by omega, by go_num, ?_, HX.out.2.2.2.drew⟩
          rw [List.take_add_one, List.take_add_one, HX.out.2.2.1, HX.out.1, HX.out.2.1]
          have : x = y := by
            cases x; cases y
            simp only [str_inj] at hk1 hk2
            rw [hk1, hk2]
          rw [this]
        case measure => omega
      · have he : Hid (decide (l = m) = false) := by
          show _ = _
          rw [decide_eq_false_iff_not]
          rintro rfl
          have := HX.out.1.symm.trans HX.out.2.1
          injection this with this
          subst this
          exact hk ⟨rfl, rfl⟩
        by_cases hk1 : x.k = y.k
        · have hk2 : ¬ x.s.toList = y.s.toList := fun h => hk ⟨hk1, h⟩
          clear hk
          go_region
          go_wp2
          go_ret
          rw [he.out]
          exact ⟨rfl, HX.out.2.2.2.drew⟩
        · clear hk
          go_region
          go_wp2
          go_ret
          rw [he.out]
          exact ⟨rfl, HX.out.2.2.2.drew⟩
    · obtain rfl : k = n := by omega
      have he : Hid (decide (l = m) = true) := by
        show _ = _
        rw [decide_eq_true_iff]
        have h7 := hp
        rw [List.take_of_length_le (by rw [← HN.out]; exact Nat.le_refl _), List.take_of_length_le (by rw [← HJ.out]; exact Nat.le_refl _)] at h7
        exact h7
      clear hp
      go_wp2
      go_ret
      rw [he.out]
      exact ⟨rfl, hu⟩
end Go.Proofs.YtomnnnjahpoggaaGreat
