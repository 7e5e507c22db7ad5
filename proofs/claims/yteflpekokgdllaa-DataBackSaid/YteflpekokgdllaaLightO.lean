/- The walk of chapter 10's Light (for seats without opts' other functions). -/
import Derived.Test.YteflpekokgdllaaProg
import Derived.Test.YteflpekokgdllaaPairs
import Derived.Test.YteflpekokgdllaaNum
import Derived.Test.YteflpekokgdllaaRd
namespace Go.Proofs.Yteflpekokgdllaa
open Go.RowKit
set_option linter.unusedSimpArgs false
set_option linter.unusedVariables false

def LightO (l : List Tg) : Bool := (l.take 60).all (fun t => decide (t.s.size ≤ 400)) && decide (l.length ≤ 50)
theorem LightO_spec {l : List Tg} (h : LightO l = true) : l.length ≤ 50 ∧ ∀ t ∈ l, t.s.size ≤ 400 := by
  simp only [LightO, Bool.and_eq_true, decide_eq_true_eq, List.all_eq_true] at h
  refine ⟨h.2, fun t ht => h.1 t ?_⟩
  rwa [List.take_of_length_le (by omega)]

set_option maxHeartbeats 1000000 in
theorem lightO_any (l : List Tg) (v : Value) (w : World) (hl : TgsAt w v l) (hs : ∀ t ∈ l, t.s.size ≤ 140737488355328) :
    Calls Try.prog 23 #[v] w fun e w' => e = .returned (.bool (LightO l)) ∧ Upd [] w w' := by
  obtain ⟨ao, cap, rfl, h1, h2, -⟩ := id hl
  obtain ⟨n, hn⟩ : ∃ n, n = l.length := ⟨_, rfl⟩
  have HQ : Hid (LightO l = ((l.take 60).all (fun t => decide (t.s.size ≤ 400)) && decide (n ≤ 50))) := by show _ = _; rw [hn]; rfl
  rw [← hn] at h1
  rw [← hn]
  have HL := Lib.hid hl
  have HN := Lib.hid hn
  have HS := Lib.hid hs
  simp only [maxLen] at h2
  clear hl hn hs
  go_enter Try.func23, Try.ntmps23
  go_wp2
  go_loopg [3] 60 (fun m s3 wr => ∃ k : Nat, k + m = 60 ∧ k ≤ n ∧ s3 = .int .i64 k ∧ (l.take k).all (fun t => decide (t.s.size ≤ 400)) = true ∧ wr = w)
  case atStart => exact ⟨0, by omega, by omega, rfl, rfl, rfl⟩
  case round =>
    obtain ⟨k, hk, hkn, rfl, hb, rfl⟩ := hrel
    by_cases t : k < n
    · by_cases t2 : k < 60
      · obtain ⟨x, hx⟩ : ∃ x, l[k]? = some x := by
          have := HN.out
          exact ⟨_, List.getElem?_eq_getElem (by omega)⟩
        have hsz := HS.out x (List.mem_of_getElem? hx)
        obtain ⟨ao', cap', e0, _, _, h3⟩ := HL.out
        injection e0 with e0 _ e2
        subst e0 e2
        obtain ⟨q, rfl, c0, c1⟩ := h3 k x hx
        clear h3
        by_cases t3 : 400 < x.s.size
        · have HF : Hid (LightO l = false) := by
            show _ = _
            have hx2 : (l.take 60).all (fun t => decide (t.s.size ≤ 400)) = false := by
              rw [List.all_eq_false]
              exact ⟨x, List.mem_of_getElem? (i := k) (by rw [List.getElem?_take, if_pos t2]; exact hx), by simp; omega⟩
            rw [HQ.out, hx2]; rfl
          have t3' : (400 : Int) < x.s.size := by omega
          clear hx
          go_wp2
          go_ret
          rw [HF.out]
          exact ⟨rfl, Upd.refl _ _⟩
        · have t3' : ¬ (400 : Int) < x.s.size := by omega
          have HX : Hid ((l.take (k + 1)).all (fun t => decide (t.s.size ≤ 400)) = true) := by
            show _ = _
            obtain ⟨h5, h6⟩ := List.getElem?_eq_some_iff.1 hx
            rw [List.take_succ_eq_append_getElem h5, h6, List.all_append, hb]
            simp; omega
          clear hx hb
          go_wp2
          go_roundg (60 - (k + 1))
          case rel => exact ⟨k + 1, by omega, by omega, by go_num, HX.out, rfl⟩
          case measure => omega
      · obtain rfl : k = 60 := by omega
        have HF : Hid (LightO l = false) := by
          show _ = _
          rw [HQ.out, decide_eq_false (by omega), Bool.and_false]
        have t3 : ¬ ((n : Int) ≤ 50) := by omega
        go_wp2
        go_ret
        rw [HF.out]
        exact ⟨rfl, Upd.refl _ _⟩
    · obtain rfl : k = n := by omega
      have HF : Hid (LightO l = decide (k ≤ 50)) := by
        show _ = _
        have h1 := HN.out
        rw [List.take_of_length_le (by omega)] at hb
        rw [HQ.out, List.take_of_length_le (by omega), hb, Bool.true_and]
      clear hb
      by_cases t3 : k ≤ 50
      · have t3' : (k : Int) ≤ 50 := by omega
        have t4 := Lib.hid (decide_eq_true t3)
        go_wp2
        go_ret
        rw [HF.out, t4.out]
        exact ⟨rfl, Upd.refl _ _⟩
      · have t3' : ¬ (k : Int) ≤ 50 := by omega
        have t4 := Lib.hid (decide_eq_false t3)
        go_wp2
        go_ret
        rw [HF.out, t4.out]
        exact ⟨rfl, Upd.refl _ _⟩

theorem TgsAt.of_blk {w : World} {g : Nat} {t : TypeId} {l : List Tg} (h : Blk w g t (tgCells l).toArray) (hl : l.length ≤ maxLen) : TgsAt w (.slice (some ⟨g, 0, none⟩) l.length l.length) l := by
  refine ⟨_, _, rfl, Nat.le_refl _, hl, fun i x hx => ?_⟩
  obtain ⟨k1, k2⟩ := tgCells_get l i hx
  refine ⟨_, rfl, ?_, ?_⟩
  · rw [add_plain, h.cell, Nat.zero_add]; simpa using k1
  · rw [add_plain]
    show w.cell? ⟨g, 0 + i * 2 + 1, none⟩ = _
    rw [h.cell, Nat.zero_add]; simpa using k2
end Go.Proofs.Yteflpekokgdllaa
