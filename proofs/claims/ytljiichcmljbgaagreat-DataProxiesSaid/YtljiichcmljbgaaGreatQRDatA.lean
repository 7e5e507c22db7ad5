/- The walks of the document's own Parse (chapter 23). WRITTEN by wip/gen/rdatb.py. The walk of the document's own parseAuth (chapter 23). The walks of the document's own parseLink and Parse (chapter 23). WRITTEN by wip/gen/rdatd.py. The walk of the document's own Parse (chapter 23). -/
import Derived.Deep.DeepCutAuto
import Derived.Deep.LoopGhost
import Derived.Test.YtljiichcmljbgaaGreatQRAvA
import Derived.Test.YtljiichcmljbgaaGreatQRefO
import Derived.Test.YtljiichcmljbgaaGreatQDataU
namespace Go.Proofs.YtljiichcmljbgaaGreat
open Go.RowKit
set_option linter.unusedSimpArgs false
set_option linter.unusedVariables false
set_option maxRecDepth 100000

theorem cntAv_take (kind : Int) (l : List Av) (k : Nat) {x : Av} (h : l[k]? = some x) : cntAv kind (l.take (k + 1)) = cntAv kind (l.take k) + (if avIs kind x = true then 1 else 0) := by
  have e : l.take (k + 1) = l.take k ++ [x] := by rw [List.take_add_one, h]; rfl
  rw [e, cntAv, cntAv, List.countP_append]
  simp [List.countP_cons]
set_option maxHeartbeats 1000000 in
theorem rone_any (l : List Av) (v : Value) (kind : Int) (w : World) (hl : AvsAt w v l) :
    Calls Tryz.prog 116 #[v, .int .i64 kind] w fun e w' => e = .returned (.tuple #[.string (txtAv l kind), .bool (oneAv l kind)]) ∧ Upd [] w w' := by
  obtain ⟨ao, cap, rfl, h1, h2, h3⟩ := id hl
  obtain ⟨n, hn⟩ : ∃ n, n = l.length := ⟨_, rfl⟩
  rw [← hn] at h1 hl
  rw [← hn]
  have HL := Lib.hid hl
  have HN := Lib.hid hn
  simp only [maxLen] at h2
  clear h3 hl hn
  go_enter Tryz.func116, Tryz.ntmps116
  go_wp2_with fail
  go_loopg [6, 7] n (fun m s6 s7 wr => ∃ k c : Nat, k + m = n ∧ s7 = .int .i64 k ∧ s6 = .int .i64 c ∧ c ≤ k ∧ c = cntAv kind (l.take k) ∧ Upd [] w wr)
  case atStart => exact ⟨0, 0, by omega, rfl, rfl, by omega, rfl, Upd.refl _ _⟩
  case round =>
    obtain ⟨k, c, hk, rfl, rfl, hck, hc, hu⟩ := hrel
    have HC := Lib.hid hc
    have HU := Lib.hid hu
    clear hc
    by_cases t : k < n
    · obtain ⟨x, hx⟩ : ∃ x, l[k]? = some x := by
        have := HN.out
        exact ⟨_, List.getElem?_eq_getElem (by omega)⟩
      obtain ⟨ao', cap', e0, _, _, h3⟩ := HL.out.upd hu
      injection e0 with e0 _ e2
      subst e0 e2
      obtain ⟨q, rfl, c0, c1, c2, c3, c4⟩ := h3 k x hx
      clear h3
      have HT := Lib.hid (cntAv_take kind l k hx)
      clear hu hx
      cases t0 : (x.vendor == 0)
      · have e1 : Hid (avIs kind x = false) := by show _ = _; unfold avIs; rw [t0]; rfl
        go_wp2_with fail
        go_roundg (n - (k + 1))
        case rel => exact ⟨k + 1, c, by omega, by go_num, rfl, by omega, by rw [HT.out, e1.out, HC.out]; simp, HU.out⟩
        case measure => omega
      · cases t1 : (x.kind == kind)
        · have e1 : Hid (avIs kind x = false) := by show _ = _; unfold avIs; rw [t0, t1]; rfl
          go_wp2_with fail
          go_roundg (n - (k + 1))
          case rel => exact ⟨k + 1, c, by omega, by go_num, rfl, by omega, by rw [HT.out, e1.out, HC.out]; simp, HU.out⟩
          case measure => omega
        · have e1 : Hid (avIs kind x = true) := by show _ = _; unfold avIs; rw [t0, t1]; rfl
          go_wp2_with fail
          go_roundg (n - (k + 1))
          case rel => exact ⟨k + 1, c + 1, by omega, by go_num, by go_num, by omega, by rw [HT.out, e1.out, HC.out]; simp, HU.out⟩
          case measure => omega
    · obtain rfl : k = n := by omega
      have hd : c = cntAv kind l := by
        have h := HC.out
        rw [HN.out, List.take_length] at h
        exact h
      have HD := Lib.hid hd
      clear hd
      go_wp2_with fail
      refine (rfind18_any l _ kind _ (by have h := HL.out.upd HU.out; exact h)).mono ?_
      rintro e w2 ⟨rfl, hu2⟩
      have HU2 := Lib.hid (HU.out.trans hu2)
      clear hu2
      by_cases t2 : c = 1
      · have e2 : ((c : Int) != 1) = false := by simp [t2]
        have HF : Hid (txtAv l kind = (findAv kind l).1 ∧ oneAv l kind = true) := by
          show _ ∧ _
          unfold txtAv oneAv
          rw [← HD.out, t2]
          exact ⟨rfl, rfl⟩
        clear t2
        go_wp2_with fail
        go_ret2
        rw [HF.out.1, HF.out.2]
        exact ⟨rfl, HU2.out⟩
      · have e2 : ((c : Int) != 1) = true := by simp; omega
        have HF : Hid (txtAv l kind = ⟨#[]⟩ ∧ oneAv l kind = false) := by
          show _ ∧ _
          unfold txtAv oneAv
          rw [← HD.out, if_neg t2]
          exact ⟨rfl, decide_eq_false t2⟩
        clear t2
        go_wp2_with fail
        go_ret2
        rw [HF.out.1, HF.out.2]
        exact ⟨rfl, HU2.out⟩
end Go.Proofs.YtljiichcmljbgaaGreat
namespace Go.Proofs.YtljiichcmljbgaaGreat
open Go.RowKit
set_option linter.unusedSimpArgs false
set_option linter.unusedVariables false
set_option maxRecDepth 100000

theorem rpx_cells {w : World} {p : Nat} {a b c d e f g h : Value} (hb : Blk w p 50 #[a, b, c, d, e, f, g, h]) :
    (w.cell? ⟨p, 0, none⟩ = some a ∧ w.cell? ⟨p, 1, none⟩ = some b ∧ w.cell? ⟨p, 2, none⟩ = some c ∧ w.cell? ⟨p, 3, none⟩ = some d) ∧
    (w.cell? ⟨p, 4, none⟩ = some e ∧ w.cell? ⟨p, 5, none⟩ = some f ∧ w.cell? ⟨p, 6, none⟩ = some g ∧ w.cell? ⟨p, 7, none⟩ = some h) :=
  ⟨⟨hb.cell 0, hb.cell 1, hb.cell 2, hb.cell 3⟩, hb.cell 4, hb.cell 5, hb.cell 6, hb.cell 7⟩
theorem rpx_froz {w : World} {p : Nat} {cs : Array Value} (h : Blk w p 50 cs) : w.frozen? ⟨p, 0, none⟩ = false ∧ w.frozen? ⟨p, 1, none⟩ = false ∧ w.frozen? ⟨p, 2, none⟩ = false ∧ w.frozen? ⟨p, 3, none⟩ = false ∧ w.frozen? ⟨p, 4, none⟩ = false ∧ w.frozen? ⟨p, 5, none⟩ = false ∧ w.frozen? ⟨p, 6, none⟩ = false ∧ w.frozen? ⟨p, 7, none⟩ = false :=
  ⟨h.frozen 0, h.frozen 1, h.frozen 2, h.frozen 3, h.frozen 4, h.frozen 5, h.frozen 6, h.frozen 7⟩
/-- What the document's parseAuth tells. -/
def claimR (l : List Av) : Px × Bool :=
  if oneAv l 29 = true ∧ (txtAv l 29).size = 2 then
    if num (txtAv l 29) 0 2 = 4 then ({ Px.zero with kind := 4 }, true)
    else if (num (txtAv l 29) 0 2 = 2 ∨ num (txtAv l 29) 0 2 = 3) ∧ oneAv l 32 = true ∧ oneAv l 30 = true ∧ oneAv l 33 = true ∧ (txtAv l 32).size = 2 ∧ byte (txtAv l 32) 0 = 0 then
      if num (txtAv l 29) 0 2 = 2 then
        if oneAv l 31 = true ∧ 1 ≤ (txtAv l 31).size ∧ (txtAv l 31).size ≤ 60 then
          ({ Px.zero with kind := num (txtAv l 29) 0 2, id := byte (txtAv l 32) 1, name := txtAv l 30, value := txtAv l 31, reply := txtAv l 33 }, true)
        else (Px.zero, false)
      else ({ Px.zero with kind := num (txtAv l 29) 0 2, id := byte (txtAv l 32) 1, name := txtAv l 30, reply := txtAv l 33 }, true)
    else (Px.zero, false)
  else (Px.zero, false)
theorem txt_none {l : List Av} {k : Int} (h : oneAv l k = false) : txtAv l k = ⟨#[]⟩ := (oneAv_f h).2
theorem nrAv_two {l : List Av} {k : Int} (h : (txtAv l k).size = 2) : nrAv l k = num (txtAv l k) 0 2 := by
  unfold nrAv valueB
  rw [if_neg (by omega), h]
theorem num_two (s : ByteArray) : num s 0 2 = byte s 0 * 256 + byte s 1 := by simp [num]
/-- It is what the program tells. -/
theorem claimR_eq (l : List Av) : (claimR l).2 = (claimed l).2 ∧ ((claimed l).2 = true → claimR l = claimed l) ∧ (((claimR l).1.first = [] ∧ (claimR l).1.tx = [] ∧ (claimR l).1.rx = [])) := by
  by_cases h1 : oneAv l 29 = true ∧ (txtAv l 29).size = 2
  · have hk := nrAv_two h1.2
    have e29 : nrOk l 29 2 4 = (decide (2 ≤ nrAv l 29) && decide (nrAv l 29 ≤ 4)) := by unfold nrOk; rw [h1.1, decide_eq_true h1.2]; rfl
    unfold claimR claimed
    rw [if_pos h1, ← hk, e29]
    generalize nrAv l 29 = k
    by_cases k4 : k = 4
    · subst k4
      rw [if_pos rfl, if_pos (by decide)]
      first | done | (refine ⟨?_, ?_, ?_, ?_, ?_⟩ <;> simp [Px.zero]; done) | (simp [Px.zero]; done)
    rw [if_neg k4]
    by_cases k23 : k = 2 ∨ k = 3
    · have hn : ¬ (k ≠ 2 ∧ k ≠ 3) := by omega
      have e1 : (decide ((2 : Int) ≤ k) && decide (k ≤ 4)) = true := by rw [decide_eq_true (by omega), decide_eq_true (by omega)]; rfl
      rw [if_neg hn, e1]
      have e32 : (oneAv l 32 = true ∧ (txtAv l 32).size = 2 ∧ byte (txtAv l 32) 0 = 0) ↔ nrOk l 32 0 255 = true := by
        unfold nrOk
        simp only [Bool.and_eq_true, decide_eq_true_eq]
        constructor
        · rintro ⟨a, b, c⟩
          rw [nrAv_two b, num_two, c]
          have := byte_bd (txtAv l 32) 1
          exact ⟨a, b, by omega, by omega⟩
        · rintro ⟨a, b, c, d⟩
          rw [nrAv_two b, num_two] at c d
          have := byte_bd (txtAv l 32) 1
          have := byte_bd (txtAv l 32) 0
          exact ⟨a, b, by omega⟩
      have ei : nrOk l 32 0 255 = true → nrAv l 32 = byte (txtAv l 32) 1 := by
        intro h
        obtain ⟨a, b, c⟩ := e32.2 h
        rw [nrAv_two b, num_two, c]
        omega
      by_cases hall : oneAv l 32 = true ∧ oneAv l 30 = true ∧ oneAv l 33 = true ∧ (txtAv l 32).size = 2 ∧ byte (txtAv l 32) 0 = 0
      · obtain ⟨a1, a2, a3, a4, a5⟩ := hall
        have a6 := e32.1 ⟨a1, a4, a5⟩
        rw [if_pos ⟨k23, a1, a2, a3, a4, a5⟩, a2, a3, a6, ei a6]
        rcases k23 with rfl | rfl
        · rw [if_pos rfl, if_pos rfl]
          by_cases hv : oneAv l 31 = true ∧ 1 ≤ (txtAv l 31).size ∧ (txtAv l 31).size ≤ 60
          · rw [if_pos hv, hv.1]
            have e2 : (!decide ((txtAv l 31).size = 0) && decide ((txtAv l 31).size ≤ 60)) = true := by
              rw [decide_eq_false (by omega), decide_eq_true hv.2.2]; rfl
            simp only [e2, Bool.and_true]
            first | done | (refine ⟨?_, ?_, ?_, ?_, ?_⟩ <;> simp [Px.zero]; done) | (simp [Px.zero]; done)
          · rw [if_neg hv]
            have e3 : (oneAv l 31 && (!decide ((txtAv l 31).size = 0) && decide ((txtAv l 31).size ≤ 60))) = false := by
              cases ho : oneAv l 31
              · rfl
              · rw [Bool.true_and]
                by_cases hz : (txtAv l 31).size = 0
                · rw [decide_eq_true hz]; rfl
                · rw [decide_eq_false hz, decide_eq_false (fun h => hv ⟨ho, by omega, h⟩)]; rfl
            simp only [Bool.true_and, e3]
            first | done | (refine ⟨?_, ?_, ?_, ?_, ?_⟩ <;> simp [Px.zero]; done) | (simp [Px.zero]; done)
        · rw [if_neg (by decide), if_neg (by decide)]
          first | done | (refine ⟨?_, ?_, ?_, ?_, ?_⟩ <;> simp [Px.zero]; done) | (simp [Px.zero]; done)
      · rw [if_neg (fun h => hall h.2)]
        have e4 : (((true && oneAv l 30) && oneAv l 33) && nrOk l 32 0 255) = false := by
          cases h5 : (((true && oneAv l 30) && oneAv l 33) && nrOk l 32 0 255) with
          | false => rfl
          | true =>
            exfalso
            simp only [Bool.and_eq_true, Bool.true_and] at h5
            obtain ⟨⟨a1, a2⟩, a3⟩ := h5
            obtain ⟨b1, b2, b3⟩ := e32.2 a3
            exact hall ⟨b1, a1, a2, b2, b3⟩
        split
        · simp only [e4, Bool.false_and]
          first | done | (refine ⟨?_, ?_, ?_, ?_, ?_⟩ <;> simp [Px.zero]; done) | (simp [Px.zero]; done)
        · simp only [e4]
          first | done | (refine ⟨?_, ?_, ?_, ?_, ?_⟩ <;> simp [Px.zero]; done) | (simp [Px.zero]; done)
    · rw [if_neg (fun h => k23 h.1), if_pos (by omega)]
      have e1 : (decide ((2 : Int) ≤ k) && decide (k ≤ 4)) = false := by
        by_cases h : 2 ≤ k
        · rw [decide_eq_false (by omega : ¬ k ≤ 4), Bool.and_false]
        · rw [decide_eq_false h, Bool.false_and]
      rw [e1]
      first | done | (refine ⟨?_, ?_, ?_, ?_, ?_⟩ <;> simp [Px.zero]; done) | (simp [Px.zero]; done)
  · have e29 : nrOk l 29 2 4 = false := by
      unfold nrOk
      cases ho : oneAv l 29
      · rfl
      · rw [decide_eq_false (fun h => h1 ⟨ho, h⟩)]; rfl
    unfold claimR claimed
    rw [if_neg h1, e29]
    split
    · first | done | (refine ⟨?_, ?_, ?_, ?_, ?_⟩ <;> simp [Px.zero]; done) | (simp [Px.zero]; done)
    · split
      · simp only [Bool.false_and]; first | done | (refine ⟨?_, ?_, ?_, ?_, ?_⟩ <;> simp [Px.zero]; done) | (simp [Px.zero]; done)
      · simp only [Bool.false_and]; first | done | (refine ⟨?_, ?_, ?_, ?_, ?_⟩ <;> simp [Px.zero]; done) | (simp [Px.zero]; done)

set_option maxHeartbeats 4000000 in
theorem rparseAuth_any (l : List Av) (v : Value) (w : World) (hl : AvsAt w v l) (hsz : ∀ t ∈ l, t.val.size ≤ 140737488355328) :
    Calls Tryz.prog 24 #[v] w fun e w' => e = .returned (.tuple #[(claimR l).1.val (.slice none 0 0) (.slice none 0 0) (.slice none 0 0), .bool (claimR l).2]) ∧ Upd [] w w' := by
  obtain ⟨s29, hs29⟩ : ∃ s, s = txtAv l 29 := ⟨_, rfl⟩
  obtain ⟨o29, ho29⟩ : ∃ s, s = oneAv l 29 := ⟨_, rfl⟩
  have H29 : Hid (∀ W, Upd [] w W → Calls Tryz.prog 116 #[v, .int .i64 29] W fun e w' => e = .returned (.tuple #[.string s29, .bool o29]) ∧ Upd [] W w') := fun W hu => by rw [hs29, ho29]; exact rone_any l v 29 W (hl.upd hu)
  have HZ29 : Hid (s29.size ≤ maxLen) := by show _ ≤ _; rw [hs29]; exact Nat.le_trans (txtAv_size l 29 _ hsz) (by simp only [maxLen]; omega)
  obtain ⟨s32, hs32⟩ : ∃ s, s = txtAv l 32 := ⟨_, rfl⟩
  obtain ⟨o32, ho32⟩ : ∃ s, s = oneAv l 32 := ⟨_, rfl⟩
  have H32 : Hid (∀ W, Upd [] w W → Calls Tryz.prog 116 #[v, .int .i64 32] W fun e w' => e = .returned (.tuple #[.string s32, .bool o32]) ∧ Upd [] W w') := fun W hu => by rw [hs32, ho32]; exact rone_any l v 32 W (hl.upd hu)
  have HZ32 : Hid (s32.size ≤ maxLen) := by show _ ≤ _; rw [hs32]; exact Nat.le_trans (txtAv_size l 32 _ hsz) (by simp only [maxLen]; omega)
  obtain ⟨s30, hs30⟩ : ∃ s, s = txtAv l 30 := ⟨_, rfl⟩
  obtain ⟨o30, ho30⟩ : ∃ s, s = oneAv l 30 := ⟨_, rfl⟩
  have H30 : Hid (∀ W, Upd [] w W → Calls Tryz.prog 116 #[v, .int .i64 30] W fun e w' => e = .returned (.tuple #[.string s30, .bool o30]) ∧ Upd [] W w') := fun W hu => by rw [hs30, ho30]; exact rone_any l v 30 W (hl.upd hu)
  have HZ30 : Hid (s30.size ≤ maxLen) := by show _ ≤ _; rw [hs30]; exact Nat.le_trans (txtAv_size l 30 _ hsz) (by simp only [maxLen]; omega)
  obtain ⟨s33, hs33⟩ : ∃ s, s = txtAv l 33 := ⟨_, rfl⟩
  obtain ⟨o33, ho33⟩ : ∃ s, s = oneAv l 33 := ⟨_, rfl⟩
  have H33 : Hid (∀ W, Upd [] w W → Calls Tryz.prog 116 #[v, .int .i64 33] W fun e w' => e = .returned (.tuple #[.string s33, .bool o33]) ∧ Upd [] W w') := fun W hu => by rw [hs33, ho33]; exact rone_any l v 33 W (hl.upd hu)
  have HZ33 : Hid (s33.size ≤ maxLen) := by show _ ≤ _; rw [hs33]; exact Nat.le_trans (txtAv_size l 33 _ hsz) (by simp only [maxLen]; omega)
  obtain ⟨s31, hs31⟩ : ∃ s, s = txtAv l 31 := ⟨_, rfl⟩
  obtain ⟨o31, ho31⟩ : ∃ s, s = oneAv l 31 := ⟨_, rfl⟩
  have H31 : Hid (∀ W, Upd [] w W → Calls Tryz.prog 116 #[v, .int .i64 31] W fun e w' => e = .returned (.tuple #[.string s31, .bool o31]) ∧ Upd [] W w') := fun W hu => by rw [hs31, ho31]; exact rone_any l v 31 W (hl.upd hu)
  have HZ31 : Hid (s31.size ≤ maxLen) := by show _ ≤ _; rw [hs31]; exact Nat.le_trans (txtAv_size l 31 _ hsz) (by simp only [maxLen]; omega)
  have HCL : Hid (claimR l = (if o29 = true ∧ s29.size = 2 then
      if num s29 0 2 = 4 then ({ Px.zero with kind := 4 }, true)
      else if (num s29 0 2 = 2 ∨ num s29 0 2 = 3) ∧ o32 = true ∧ o30 = true ∧ o33 = true ∧ s32.size = 2 ∧ byte s32 0 = 0 then
        if num s29 0 2 = 2 then
          if o31 = true ∧ 1 ≤ s31.size ∧ s31.size ≤ 60 then
            ({ Px.zero with kind := num s29 0 2, id := byte s32 1, name := s30, value := s31, reply := s33 }, true)
          else (Px.zero, false)
        else ({ Px.zero with kind := num s29 0 2, id := byte s32 1, name := s30, reply := s33 }, true)
      else (Px.zero, false)
    else (Px.zero, false))) := by show _ = _; rw [hs29, ho29, hs30, ho30, hs31, ho31, hs32, ho32, hs33, ho33]; rfl
  obtain ⟨CR, hCR⟩ : ∃ c, c = claimR l := ⟨_, rfl⟩
  rw [← hCR] at HCL ⊢
  clear hs29 ho29 hs30 ho30 hs31 ho31 hs32 ho32 hs33 ho33 hCR hsz
  obtain ⟨wz, hwz⟩ : ∃ wz, wz = w.alloc (.cells #[.slice none 0 0, .slice none 0 0, .slice none 0 0, .int .i64 0, .int .i64 0, .string ⟨#[]⟩, .string ⟨#[]⟩, .string ⟨#[]⟩] 50) := ⟨_, rfl⟩
  have HB0 : Hid (Blk wz w.heap.size 50 #[.slice none 0 0, .slice none 0 0, .slice none 0 0, .int .i64 0, .int .i64 0, .string ⟨#[]⟩, .string ⟨#[]⟩, .string ⟨#[]⟩]) := by show Blk _ _ _ _; rw [hwz]; exact Blk.new _ _ _
  have HUz : Hid (Upd [] w wz) := by show Upd _ _ _; rw [hwz]; exact (Upd.refl _ _).alloc _
  have HWZ := Lib.hid hwz
  clear hwz hl
  go_enter Tryz.func24, Tryz.ntmps24
  go_wp2_with fail
  rw [← HWZ.out]
  refine (H29.out _ HUz.out).mono ?_
  rintro e w1 ⟨rfl, hu1⟩
  have HU1 := Lib.hid (HUz.out.trans hu1)
  have HB1 := Lib.hid (HB0.out.upd hu1 (by simp))
  clear hu1 HWZ HUz HB0
  by_cases t29 : ¬ (o29 = true ∧ s29.size = 2)
  · have HC : Hid (CR = (Px.zero, false)) := by have h := HCL.out; rw [if_neg t29] at h; exact h
    obtain ⟨⟨c0, c1, c2, c3⟩, c4, c5, c6, c7⟩ := rpx_cells HB1.out
    obtain ⟨cf0, cf1, cf2, cf3, cf4, cf5, cf6, cf7⟩ := rpx_froz HB1.out
    clear HCL
    cases o29
    · go_wp2_with fail
      exact bodyPost_ret (v := .tuple #[.agg #[.slice none 0 0, .slice none 0 0, .slice none 0 0, .int .i64 0, .int .i64 0, .string ⟨#[]⟩, .string ⟨#[]⟩, .string ⟨#[]⟩], .bool false]) (by simp [results, Tryz.results24, go_sem, c0, c1, c2, c3, c4, c5, c6, c7]) rfl ⟨by rw [HC.out]; rfl, by repeat (with_reducible first | refine Upd.setCell _ ?_ (.inr (Nat.le_refl _)) | exact HU1.out)⟩
    · have q2 : ((s29.size : Int) != 2) = true := by have : s29.size ≠ 2 := fun h => t29 ⟨rfl, h⟩; simp; omega
      clear t29
      go_wp2_with fail
      exact bodyPost_ret (v := .tuple #[.agg #[.slice none 0 0, .slice none 0 0, .slice none 0 0, .int .i64 0, .int .i64 0, .string ⟨#[]⟩, .string ⟨#[]⟩, .string ⟨#[]⟩], .bool false]) (by simp [results, Tryz.results24, go_sem, c0, c1, c2, c3, c4, c5, c6, c7]) rfl ⟨by rw [HC.out]; rfl, by repeat (with_reducible first | refine Upd.setCell _ ?_ (.inr (Nat.le_refl _)) | exact HU1.out)⟩
  have t29' := Classical.not_not.1 t29
  obtain ⟨rfl, q29⟩ := t29'
  have hc2 := HCL.out
  rw [if_pos ⟨rfl, q29⟩] at hc2
  have q2 : ((s29.size : Int) != 2) = false := by simp [q29]
  have HQ29 := Lib.hid q29
  clear t29 HCL q29
  go_wp2_with fail
  refine (rnum_any s29 0 HZ29.out (by have := HQ29.out; omega) _).mono ?_
  rintro e w2 ⟨rfl, hu2⟩
  have hnb := num_bd s29 0 2
  obtain ⟨k, hk⟩ : ∃ k, k = num s29 0 2 := ⟨_, rfl⟩
  rw [← hk] at hnb hc2 ⊢
  have HCL2 := Lib.hid hc2
  have HU2 := Lib.hid (HU1.out.trans hu2)
  have HB := Lib.hid (HB1.out.upd hu2 (by simp))
  clear hk hu2 HU1 HB1 hc2
  have hlt := HB.out.lt
  obtain ⟨P, hP⟩ : ∃ P, P = w2.heap.size := ⟨_, rfl⟩
  obtain ⟨w3, hw3⟩ : ∃ x, x = w2.alloc (.cells #[.slice none 0 0, .slice none 0 0, .slice none 0 0, .int .i64 k, .int .i64 0, .string ⟨#[]⟩, .string ⟨#[]⟩, .string ⟨#[]⟩] 50) := ⟨_, rfl⟩
  have HP3 : Hid (Blk w3 P 50 #[.slice none 0 0, .slice none 0 0, .slice none 0 0, .int .i64 k, .int .i64 0, .string ⟨#[]⟩, .string ⟨#[]⟩, .string ⟨#[]⟩]) := by show Blk _ _ _ _; rw [hw3, hP]; exact Blk.new _ _ _
  have HB3 : Hid (Blk w3 w.heap.size 50 #[.slice none 0 0, .slice none 0 0, .slice none 0 0, .int .i64 0, .int .i64 0, .string ⟨#[]⟩, .string ⟨#[]⟩, .string ⟨#[]⟩]) := by show Blk _ _ _ _; rw [hw3]; exact HB.out.alloc _
  have HU3 : Hid (Upd [] w w3) := by show Upd _ _ _; rw [hw3]; exact HU2.out.alloc _
  have HW3 := Lib.hid hw3
  have HPP := Lib.hid hP
  rw [← hP] at hlt
  clear hw3 HB HU2 hP
  go_upto_region 5 with (fail)
  rw [← HW3.out, ← HPP.out]
  obtain ⟨⟨d0, d1, d2, d3⟩, d4, d5, d6, d7⟩ := rpx_cells HP3.out
  obtain ⟨df0, df1, df2, df3, df4, df5, df6, df7⟩ := rpx_froz HP3.out
  by_cases k4 : k = 4
  · subst k4
    have HC : Hid (CR = ({ Px.zero with kind := 4 }, true)) := by have h := HCL2.out; rw [if_pos rfl] at h; exact h
    clear HCL2
    obtain ⟨⟨c0, c1, c2, c3⟩, c4, c5, c6, c7⟩ := rpx_cells HB3.out
    obtain ⟨cf0, cf1, cf2, cf3, cf4, cf5, cf6, cf7⟩ := rpx_froz HB3.out
    go_wp2_with fail
    exact bodyPost_ret (v := .tuple #[.agg #[.slice none 0 0, .slice none 0 0, .slice none 0 0, .int .i64 4, .int .i64 0, .string ⟨#[]⟩, .string ⟨#[]⟩, .string ⟨#[]⟩], .bool true]) (by simp [results, Tryz.results24, go_sem, c0, c1, c2, c3, c4, c5, c6, c7]) rfl ⟨by rw [HC.out]; rfl, by repeat (with_reducible first | refine Upd.setCell _ ?_ (.inr (Nat.le_refl _)) | refine Upd.setCell _ ?_ (.inr (show w.heap.size ≤ P by omega)) | refine Upd.alloc _ ?_ | exact HU3.out)⟩
  have k4' : (k == 4) = false := by simp [k4]
  have hc3 := HCL2.out
  rw [if_neg k4] at hc3
  have HCL3 := Lib.hid hc3
  clear HCL2 hc3 k4
  go_wp2_with fail
  clear d0 d1 d2 d3 d4 d5 d6 d7 df0 df1 df2 df3 df4 df5 df6 df7
  refine (H32.out _ HU3.out).mono ?_
  rintro e w4 ⟨rfl, hu4⟩
  have HP4 := Lib.hid (HP3.out.upd hu4 (by simp))
  have HB4 := Lib.hid (HB3.out.upd hu4 (by simp))
  have HU4 := Lib.hid (HU3.out.trans hu4)
  clear hu4 HP3 HB3 HU3 HW3 HPP
  go_wp2_with fail
  refine (H30.out _ HU4.out).mono ?_
  rintro e w5 ⟨rfl, hu5⟩
  have HP5 := Lib.hid (HP4.out.upd hu5 (by simp))
  have HB5 := Lib.hid (HB4.out.upd hu5 (by simp))
  have HU5 := Lib.hid (HU4.out.trans hu5)
  clear hu5 HP4 HB4 HU4
  go_wp2_with fail
  refine (H33.out _ HU5.out).mono ?_
  rintro e w6 ⟨rfl, hu6⟩
  have HP := Lib.hid (HP5.out.upd hu6 (by simp))
  have HB := Lib.hid (HB5.out.upd hu6 (by simp))
  have HU6 := Lib.hid (HU5.out.trans hu6)
  clear hu6 HP5 HB5 HU5
  obtain ⟨⟨d0, d1, d2, d3⟩, d4, d5, d6, d7⟩ := rpx_cells HP.out
  obtain ⟨df0, df1, df2, df3, df4, df5, df6, df7⟩ := rpx_froz HP.out
  by_cases k23 : ¬ (k = 2 ∨ k = 3)
  · have HC : Hid (CR = (Px.zero, false)) := by have h := HCL3.out; rw [if_neg (fun h => k23 h.1)] at h; exact h
    have e1 : (k != 2) = true := by simp; omega
    have e2 : (k != 3) = true := by simp; omega
    clear HCL3 k23
    obtain ⟨⟨c0, c1, c2, c3⟩, c4, c5, c6, c7⟩ := rpx_cells HB.out
    obtain ⟨cf0, cf1, cf2, cf3, cf4, cf5, cf6, cf7⟩ := rpx_froz HB.out
    go_wp2_with fail
    exact bodyPost_ret (v := .tuple #[.agg #[.slice none 0 0, .slice none 0 0, .slice none 0 0, .int .i64 0, .int .i64 0, .string ⟨#[]⟩, .string ⟨#[]⟩, .string ⟨#[]⟩], .bool false]) (by simp [results, Tryz.results24, go_sem, c0, c1, c2, c3, c4, c5, c6, c7]) rfl ⟨by rw [HC.out]; rfl, by repeat (with_reducible first | refine Upd.setCell _ ?_ (.inr (Nat.le_refl _)) | refine Upd.setCell _ ?_ (.inr (show w.heap.size ≤ P by omega)) | exact HU6.out)⟩
  rcases Classical.not_not.1 k23 with rfl | rfl
  · clear k23
    cases o32
    · have HC : Hid (CR = (Px.zero, false)) := by have h := HCL3.out; rw [if_neg (fun h => by have h2 := h.2.1; cases h2)] at h; exact h
      clear HCL3
      obtain ⟨⟨c0, c1, c2, c3⟩, c4, c5, c6, c7⟩ := rpx_cells HB.out
      obtain ⟨cf0, cf1, cf2, cf3, cf4, cf5, cf6, cf7⟩ := rpx_froz HB.out
      go_wp2_with fail
      exact bodyPost_ret (v := .tuple #[.agg #[.slice none 0 0, .slice none 0 0, .slice none 0 0, .int .i64 0, .int .i64 0, .string ⟨#[]⟩, .string ⟨#[]⟩, .string ⟨#[]⟩], .bool false]) (by simp [results, Tryz.results24, go_sem, c0, c1, c2, c3, c4, c5, c6, c7]) rfl ⟨by rw [HC.out]; rfl, by repeat (with_reducible first | refine Upd.setCell _ ?_ (.inr (Nat.le_refl _)) | refine Upd.setCell _ ?_ (.inr (show w.heap.size ≤ P by omega)) | exact HU6.out)⟩
    cases o30
    · have HC : Hid (CR = (Px.zero, false)) := by have h := HCL3.out; rw [if_neg (fun h => by have h2 := h.2.2.1; cases h2)] at h; exact h
      clear HCL3
      obtain ⟨⟨c0, c1, c2, c3⟩, c4, c5, c6, c7⟩ := rpx_cells HB.out
      obtain ⟨cf0, cf1, cf2, cf3, cf4, cf5, cf6, cf7⟩ := rpx_froz HB.out
      go_wp2_with fail
      exact bodyPost_ret (v := .tuple #[.agg #[.slice none 0 0, .slice none 0 0, .slice none 0 0, .int .i64 0, .int .i64 0, .string ⟨#[]⟩, .string ⟨#[]⟩, .string ⟨#[]⟩], .bool false]) (by simp [results, Tryz.results24, go_sem, c0, c1, c2, c3, c4, c5, c6, c7]) rfl ⟨by rw [HC.out]; rfl, by repeat (with_reducible first | refine Upd.setCell _ ?_ (.inr (Nat.le_refl _)) | refine Upd.setCell _ ?_ (.inr (show w.heap.size ≤ P by omega)) | exact HU6.out)⟩
    cases o33
    · have HC : Hid (CR = (Px.zero, false)) := by have h := HCL3.out; rw [if_neg (fun h => by have h2 := h.2.2.2.1; cases h2)] at h; exact h
      clear HCL3
      obtain ⟨⟨c0, c1, c2, c3⟩, c4, c5, c6, c7⟩ := rpx_cells HB.out
      obtain ⟨cf0, cf1, cf2, cf3, cf4, cf5, cf6, cf7⟩ := rpx_froz HB.out
      go_wp2_with fail
      exact bodyPost_ret (v := .tuple #[.agg #[.slice none 0 0, .slice none 0 0, .slice none 0 0, .int .i64 0, .int .i64 0, .string ⟨#[]⟩, .string ⟨#[]⟩, .string ⟨#[]⟩], .bool false]) (by simp [results, Tryz.results24, go_sem, c0, c1, c2, c3, c4, c5, c6, c7]) rfl ⟨by rw [HC.out]; rfl, by repeat (with_reducible first | refine Upd.setCell _ ?_ (.inr (Nat.le_refl _)) | refine Upd.setCell _ ?_ (.inr (show w.heap.size ≤ P by omega)) | exact HU6.out)⟩
    by_cases z32 : s32.size = 2
    rotate_left
    · have HC : Hid (CR = (Px.zero, false)) := by have h := HCL3.out; rw [if_neg (fun h => z32 h.2.2.2.2.1)] at h; exact h
      have e3 : ((s32.size : Int) != 2) = true := by simp; omega
      clear HCL3 z32
      obtain ⟨⟨c0, c1, c2, c3⟩, c4, c5, c6, c7⟩ := rpx_cells HB.out
      obtain ⟨cf0, cf1, cf2, cf3, cf4, cf5, cf6, cf7⟩ := rpx_froz HB.out
      go_wp2_with fail
      exact bodyPost_ret (v := .tuple #[.agg #[.slice none 0 0, .slice none 0 0, .slice none 0 0, .int .i64 0, .int .i64 0, .string ⟨#[]⟩, .string ⟨#[]⟩, .string ⟨#[]⟩], .bool false]) (by simp [results, Tryz.results24, go_sem, c0, c1, c2, c3, c4, c5, c6, c7]) rfl ⟨by rw [HC.out]; rfl, by repeat (with_reducible first | refine Upd.setCell _ ?_ (.inr (Nat.le_refl _)) | refine Upd.setCell _ ?_ (.inr (show w.heap.size ≤ P by omega)) | exact HU6.out)⟩
    have e3 : ((s32.size : Int) != 2) = false := by simp [z32]
    have g0 := byte_get s32 0 (by omega)
    have g1 := byte_get s32 1 (by omega)
    have bb0 := byte_bd s32 0
    have bb1 := byte_bd s32 1
    obtain ⟨y0, hy0⟩ : ∃ y, y = byte s32 0 := ⟨_, rfl⟩
    obtain ⟨y1, hy1⟩ : ∃ y, y = byte s32 1 := ⟨_, rfl⟩
    rw [← hy0] at g0 bb0
    rw [← hy1] at g1 bb1
    have hc4 := HCL3.out
    rw [← hy0, ← hy1] at hc4
    have HCL4 := Lib.hid hc4
    clear HCL3 hc4 hy0 hy1
    have z2 : 0 < s32.size ∧ 1 < s32.size := by omega
    obtain ⟨z2a, z2b⟩ := z2
    by_cases y00 : y0 = 0
    rotate_left
    · have HC : Hid (CR = (Px.zero, false)) := by have h := HCL4.out; rw [if_neg (fun h => y00 h.2.2.2.2.2)] at h; exact h
      have e4 : (y0 != 0) = true := by simpa using y00
      clear HCL4 y00
      obtain ⟨⟨c0, c1, c2, c3⟩, c4, c5, c6, c7⟩ := rpx_cells HB.out
      obtain ⟨cf0, cf1, cf2, cf3, cf4, cf5, cf6, cf7⟩ := rpx_froz HB.out
      go_wp2_with fail
      exact bodyPost_ret (v := .tuple #[.agg #[.slice none 0 0, .slice none 0 0, .slice none 0 0, .int .i64 0, .int .i64 0, .string ⟨#[]⟩, .string ⟨#[]⟩, .string ⟨#[]⟩], .bool false]) (by simp [results, Tryz.results24, go_sem, c0, c1, c2, c3, c4, c5, c6, c7]) rfl ⟨by rw [HC.out]; rfl, by repeat (with_reducible first | refine Upd.setCell _ ?_ (.inr (Nat.le_refl _)) | refine Upd.setCell _ ?_ (.inr (show w.heap.size ≤ P by omega)) | exact HU6.out)⟩
    subst y00
    have hc5 := HCL4.out
    rw [if_pos ⟨by decide, rfl, rfl, rfl, z32, rfl⟩] at hc5
    clear HCL4
    rw [if_pos rfl] at hc5
    have HCL5 := Lib.hid hc5
    have hp6 := (((HP.out.set_ 4 (.int .i64 y1)).set_ 5 (.string s30)).set_ 7 (.string s33))
    have hne : w.heap.size ≠ P := by omega
    have hb6 : Blk (((w6.setCell ⟨P, 4, none⟩ (.int .i64 y1)).setCell ⟨P, 5, none⟩ (.string s30)).setCell ⟨P, 7, none⟩ (.string s33)) w.heap.size 50 #[.slice none 0 0, .slice none 0 0, .slice none 0 0, .int .i64 0, .int .i64 0, .string ⟨#[]⟩, .string ⟨#[]⟩, .string ⟨#[]⟩] := ((HB.out.far _ hne).far _ hne).far _ hne
    have HUS : Hid (Upd [] w (((w6.setCell ⟨P, 4, none⟩ (.int .i64 y1)).setCell ⟨P, 5, none⟩ (.string s30)).setCell ⟨P, 7, none⟩ (.string s33))) := ((HU6.out.setCell _ (.inr (show w.heap.size ≤ P by omega))).setCell _ (.inr (show w.heap.size ≤ P by omega))).setCell _ (.inr (show w.heap.size ≤ P by omega))
    have HP6 := Lib.hid hp6
    have HB6 := Lib.hid hb6
    clear hc5 hp6 hb6
    go_wp2_with fail
    refine (H31.out _ HUS.out).mono ?_
    rintro e w7 ⟨rfl, hu7⟩
    have HPB := Lib.hid (HP6.out.upd hu7 (by simp))
    have HU7 := Lib.hid (HUS.out.trans hu7)
    have HB := Lib.hid (HB6.out.upd hu7 (by simp))
    clear hu7 HP6 HB6 HUS HU6
    clear d0 d1 d2 d3 d4 d5 d6 d7 df0 df1 df2 df3 df4 df5 df6 df7
    have HPC : Hid (Blk w7 P 50 #[.slice none 0 0, .slice none 0 0, .slice none 0 0, .int .i64 2, .int .i64 y1, .string s30, .string ⟨#[]⟩, .string s33]) := HPB.out
    obtain ⟨⟨d0, d1, d2, d3⟩, d4, d5, d6, d7⟩ := rpx_cells HPC.out
    obtain ⟨df0, df1, df2, df3, df4, df5, df6, df7⟩ := rpx_froz HPC.out
    cases o31
    · have HC : Hid (CR = (Px.zero, false)) := by have h := HCL5.out; rw [if_neg (fun h => by have h2 := h.1; cases h2)] at h; exact h
      clear HCL5
      obtain ⟨⟨c0, c1, c2, c3⟩, c4, c5, c6, c7⟩ := rpx_cells HB.out
      obtain ⟨cf0, cf1, cf2, cf3, cf4, cf5, cf6, cf7⟩ := rpx_froz HB.out
      go_wp2_with fail
      exact bodyPost_ret (v := .tuple #[.agg #[.slice none 0 0, .slice none 0 0, .slice none 0 0, .int .i64 0, .int .i64 0, .string ⟨#[]⟩, .string ⟨#[]⟩, .string ⟨#[]⟩], .bool false]) (by simp [results, Tryz.results24, go_sem, c0, c1, c2, c3, c4, c5, c6, c7]) rfl ⟨by rw [HC.out]; rfl, by repeat (with_reducible first | refine Upd.setCell _ ?_ (.inr (Nat.le_refl _)) | refine Upd.setCell _ ?_ (.inr (show w.heap.size ≤ P by omega)) | exact HU7.out)⟩
    by_cases z31 : s31.size < 1
    · have HC : Hid (CR = (Px.zero, false)) := by have h := HCL5.out; rw [if_neg (fun h => by have h2 := h.2.1; omega)] at h; exact h
      have e5 : (s31.size : Int) < 1 := by omega
      clear HCL5 z31
      obtain ⟨⟨c0, c1, c2, c3⟩, c4, c5, c6, c7⟩ := rpx_cells HB.out
      obtain ⟨cf0, cf1, cf2, cf3, cf4, cf5, cf6, cf7⟩ := rpx_froz HB.out
      go_wp2_with fail
      exact bodyPost_ret (v := .tuple #[.agg #[.slice none 0 0, .slice none 0 0, .slice none 0 0, .int .i64 0, .int .i64 0, .string ⟨#[]⟩, .string ⟨#[]⟩, .string ⟨#[]⟩], .bool false]) (by simp [results, Tryz.results24, go_sem, c0, c1, c2, c3, c4, c5, c6, c7]) rfl ⟨by rw [HC.out]; rfl, by repeat (with_reducible first | refine Upd.setCell _ ?_ (.inr (Nat.le_refl _)) | refine Upd.setCell _ ?_ (.inr (show w.heap.size ≤ P by omega)) | exact HU7.out)⟩
    by_cases z60 : 60 < s31.size
    · have HC : Hid (CR = (Px.zero, false)) := by have h := HCL5.out; rw [if_neg (fun h => by have h2 := h.2.2; omega)] at h; exact h
      have e5 : ¬ (s31.size : Int) < 1 := by omega
      have e6 : (60 : Int) < s31.size := by omega
      clear HCL5 z31 z60
      obtain ⟨⟨c0, c1, c2, c3⟩, c4, c5, c6, c7⟩ := rpx_cells HB.out
      obtain ⟨cf0, cf1, cf2, cf3, cf4, cf5, cf6, cf7⟩ := rpx_froz HB.out
      go_wp2_with fail
      exact bodyPost_ret (v := .tuple #[.agg #[.slice none 0 0, .slice none 0 0, .slice none 0 0, .int .i64 0, .int .i64 0, .string ⟨#[]⟩, .string ⟨#[]⟩, .string ⟨#[]⟩], .bool false]) (by simp [results, Tryz.results24, go_sem, c0, c1, c2, c3, c4, c5, c6, c7]) rfl ⟨by rw [HC.out]; rfl, by repeat (with_reducible first | refine Upd.setCell _ ?_ (.inr (Nat.le_refl _)) | refine Upd.setCell _ ?_ (.inr (show w.heap.size ≤ P by omega)) | exact HU7.out)⟩
    have HC : Hid (CR = ({ Px.zero with kind := 2, id := y1, name := s30, value := s31, reply := s33 }, true)) := by have h := HCL5.out; rw [if_pos ⟨rfl, by omega, by omega⟩] at h; exact h
    have e5 : ¬ (s31.size : Int) < 1 := by omega
    have e6 : ¬ (60 : Int) < s31.size := by omega
    clear HCL5 z31 z60
    obtain ⟨⟨c0, c1, c2, c3⟩, c4, c5, c6, c7⟩ := rpx_cells HB.out
    obtain ⟨cf0, cf1, cf2, cf3, cf4, cf5, cf6, cf7⟩ := rpx_froz HB.out
    go_wp2_with fail
    exact bodyPost_ret (v := .tuple #[.agg #[.slice none 0 0, .slice none 0 0, .slice none 0 0, .int .i64 2, .int .i64 y1, .string s30, .string s31, .string s33], .bool true]) (by simp [results, Tryz.results24, go_sem, c0, c1, c2, c3, c4, c5, c6, c7]) rfl ⟨by rw [HC.out]; rfl, by repeat (with_reducible first | refine Upd.setCell _ ?_ (.inr (Nat.le_refl _)) | refine Upd.setCell _ ?_ (.inr (show w.heap.size ≤ P by omega)) | refine Upd.alloc _ ?_ | exact HU7.out)⟩
  · clear k23
    cases o32
    · have HC : Hid (CR = (Px.zero, false)) := by have h := HCL3.out; rw [if_neg (fun h => by have h2 := h.2.1; cases h2)] at h; exact h
      clear HCL3
      obtain ⟨⟨c0, c1, c2, c3⟩, c4, c5, c6, c7⟩ := rpx_cells HB.out
      obtain ⟨cf0, cf1, cf2, cf3, cf4, cf5, cf6, cf7⟩ := rpx_froz HB.out
      go_wp2_with fail
      exact bodyPost_ret (v := .tuple #[.agg #[.slice none 0 0, .slice none 0 0, .slice none 0 0, .int .i64 0, .int .i64 0, .string ⟨#[]⟩, .string ⟨#[]⟩, .string ⟨#[]⟩], .bool false]) (by simp [results, Tryz.results24, go_sem, c0, c1, c2, c3, c4, c5, c6, c7]) rfl ⟨by rw [HC.out]; rfl, by repeat (with_reducible first | refine Upd.setCell _ ?_ (.inr (Nat.le_refl _)) | refine Upd.setCell _ ?_ (.inr (show w.heap.size ≤ P by omega)) | exact HU6.out)⟩
    cases o30
    · have HC : Hid (CR = (Px.zero, false)) := by have h := HCL3.out; rw [if_neg (fun h => by have h2 := h.2.2.1; cases h2)] at h; exact h
      clear HCL3
      obtain ⟨⟨c0, c1, c2, c3⟩, c4, c5, c6, c7⟩ := rpx_cells HB.out
      obtain ⟨cf0, cf1, cf2, cf3, cf4, cf5, cf6, cf7⟩ := rpx_froz HB.out
      go_wp2_with fail
      exact bodyPost_ret (v := .tuple #[.agg #[.slice none 0 0, .slice none 0 0, .slice none 0 0, .int .i64 0, .int .i64 0, .string ⟨#[]⟩, .string ⟨#[]⟩, .string ⟨#[]⟩], .bool false]) (by simp [results, Tryz.results24, go_sem, c0, c1, c2, c3, c4, c5, c6, c7]) rfl ⟨by rw [HC.out]; rfl, by repeat (with_reducible first | refine Upd.setCell _ ?_ (.inr (Nat.le_refl _)) | refine Upd.setCell _ ?_ (.inr (show w.heap.size ≤ P by omega)) | exact HU6.out)⟩
    cases o33
    · have HC : Hid (CR = (Px.zero, false)) := by have h := HCL3.out; rw [if_neg (fun h => by have h2 := h.2.2.2.1; cases h2)] at h; exact h
      clear HCL3
      obtain ⟨⟨c0, c1, c2, c3⟩, c4, c5, c6, c7⟩ := rpx_cells HB.out
      obtain ⟨cf0, cf1, cf2, cf3, cf4, cf5, cf6, cf7⟩ := rpx_froz HB.out
      go_wp2_with fail
      exact bodyPost_ret (v := .tuple #[.agg #[.slice none 0 0, .slice none 0 0, .slice none 0 0, .int .i64 0, .int .i64 0, .string ⟨#[]⟩, .string ⟨#[]⟩, .string ⟨#[]⟩], .bool false]) (by simp [results, Tryz.results24, go_sem, c0, c1, c2, c3, c4, c5, c6, c7]) rfl ⟨by rw [HC.out]; rfl, by repeat (with_reducible first | refine Upd.setCell _ ?_ (.inr (Nat.le_refl _)) | refine Upd.setCell _ ?_ (.inr (show w.heap.size ≤ P by omega)) | exact HU6.out)⟩
    by_cases z32 : s32.size = 2
    rotate_left
    · have HC : Hid (CR = (Px.zero, false)) := by have h := HCL3.out; rw [if_neg (fun h => z32 h.2.2.2.2.1)] at h; exact h
      have e3 : ((s32.size : Int) != 2) = true := by simp; omega
      clear HCL3 z32
      obtain ⟨⟨c0, c1, c2, c3⟩, c4, c5, c6, c7⟩ := rpx_cells HB.out
      obtain ⟨cf0, cf1, cf2, cf3, cf4, cf5, cf6, cf7⟩ := rpx_froz HB.out
      go_wp2_with fail
      exact bodyPost_ret (v := .tuple #[.agg #[.slice none 0 0, .slice none 0 0, .slice none 0 0, .int .i64 0, .int .i64 0, .string ⟨#[]⟩, .string ⟨#[]⟩, .string ⟨#[]⟩], .bool false]) (by simp [results, Tryz.results24, go_sem, c0, c1, c2, c3, c4, c5, c6, c7]) rfl ⟨by rw [HC.out]; rfl, by repeat (with_reducible first | refine Upd.setCell _ ?_ (.inr (Nat.le_refl _)) | refine Upd.setCell _ ?_ (.inr (show w.heap.size ≤ P by omega)) | exact HU6.out)⟩
    have e3 : ((s32.size : Int) != 2) = false := by simp [z32]
    have g0 := byte_get s32 0 (by omega)
    have g1 := byte_get s32 1 (by omega)
    have bb0 := byte_bd s32 0
    have bb1 := byte_bd s32 1
    obtain ⟨y0, hy0⟩ : ∃ y, y = byte s32 0 := ⟨_, rfl⟩
    obtain ⟨y1, hy1⟩ : ∃ y, y = byte s32 1 := ⟨_, rfl⟩
    rw [← hy0] at g0 bb0
    rw [← hy1] at g1 bb1
    have hc4 := HCL3.out
    rw [← hy0, ← hy1] at hc4
    have HCL4 := Lib.hid hc4
    clear HCL3 hc4 hy0 hy1
    have z2 : 0 < s32.size ∧ 1 < s32.size := by omega
    obtain ⟨z2a, z2b⟩ := z2
    by_cases y00 : y0 = 0
    rotate_left
    · have HC : Hid (CR = (Px.zero, false)) := by have h := HCL4.out; rw [if_neg (fun h => y00 h.2.2.2.2.2)] at h; exact h
      have e4 : (y0 != 0) = true := by simpa using y00
      clear HCL4 y00
      obtain ⟨⟨c0, c1, c2, c3⟩, c4, c5, c6, c7⟩ := rpx_cells HB.out
      obtain ⟨cf0, cf1, cf2, cf3, cf4, cf5, cf6, cf7⟩ := rpx_froz HB.out
      go_wp2_with fail
      exact bodyPost_ret (v := .tuple #[.agg #[.slice none 0 0, .slice none 0 0, .slice none 0 0, .int .i64 0, .int .i64 0, .string ⟨#[]⟩, .string ⟨#[]⟩, .string ⟨#[]⟩], .bool false]) (by simp [results, Tryz.results24, go_sem, c0, c1, c2, c3, c4, c5, c6, c7]) rfl ⟨by rw [HC.out]; rfl, by repeat (with_reducible first | refine Upd.setCell _ ?_ (.inr (Nat.le_refl _)) | refine Upd.setCell _ ?_ (.inr (show w.heap.size ≤ P by omega)) | exact HU6.out)⟩
    subst y00
    have hc5 := HCL4.out
    rw [if_pos ⟨by decide, rfl, rfl, rfl, z32, rfl⟩] at hc5
    clear HCL4
    rw [if_neg (by decide)] at hc5
    have HC := Lib.hid hc5
    clear hc5
    obtain ⟨⟨c0, c1, c2, c3⟩, c4, c5, c6, c7⟩ := rpx_cells HB.out
    obtain ⟨cf0, cf1, cf2, cf3, cf4, cf5, cf6, cf7⟩ := rpx_froz HB.out
    go_wp2_with fail
    exact bodyPost_ret (v := .tuple #[.agg #[.slice none 0 0, .slice none 0 0, .slice none 0 0, .int .i64 3, .int .i64 y1, .string s30, .string ⟨#[]⟩, .string s33], .bool true]) (by simp [results, Tryz.results24, go_sem, c0, c1, c2, c3, c4, c5, c6, c7]) rfl ⟨by rw [HC.out]; rfl, by repeat (with_reducible first | refine Upd.setCell _ ?_ (.inr (Nat.le_refl _)) | refine Upd.setCell _ ?_ (.inr (show w.heap.size ≤ P by omega)) | refine Upd.alloc _ ?_ | exact HU6.out)⟩
end Go.Proofs.YtljiichcmljbgaaGreat
namespace Go.Proofs.YtljiichcmljbgaaGreat
open Go.RowKit
set_option linter.unusedSimpArgs false
set_option linter.unusedVariables false
set_option maxRecDepth 100000

def nilPx : Array Value := #[.slice none 0 0, .slice none 0 0, .slice none 0 0, .int .i64 0, .int .i64 0, .string ⟨#[]⟩, .string ⟨#[]⟩, .string ⟨#[]⟩]
theorem linked_bad {l : List Av} {k : Nat} (hk : k < 3) (h : osOk l (26 + (k : Int)) = false) : linked l = false := by
  unfold linked
  match k, hk with
  | 0, _ => rw [show (26 : Int) + ((0 : Nat) : Int) = 26 from rfl] at h; rw [h]; rfl
  | 1, _ => rw [show (26 : Int) + ((1 : Nat) : Int) = 27 from rfl] at h; rw [h, Bool.and_false]; rfl
  | 2, _ => rw [show (26 : Int) + ((2 : Nat) : Int) = 28 from rfl] at h; rw [h, Bool.and_false]
theorem tgs_own {w : World} {u : Value} {l : List Tg} {own : List Nat} (h : Own w 131 2 u l.length (tgCells l) own) : TgsAt w u l := by
  obtain ⟨ao, cap, rfl, -, -⟩ := h.shape
  exact TgsAt.of_own h
/-- A list of options in blocks of its own. -/
def OwnTgs (w : World) (u : Value) (l : List Tg) : Prop := ∃ own, Own w 131 2 u l.length (tgCells l) own
theorem OwnTgs.tgs {w : World} {u : Value} {l : List Tg} (h : OwnTgs w u l) : TgsAt w u l := by
  obtain ⟨own, h⟩ := h
  exact tgs_own h
theorem OwnTgs.upd {w w' : World} {u : Value} {l : List Tg} {F : List Nat} (h : OwnTgs w u l) (hu : Upd F w w') (hF : ∀ k ∈ F, ∃ cs, Blk w k 50 cs) : OwnTgs w' u l := by
  obtain ⟨own, h⟩ := h
  exact ⟨own, h.upd hu (fun k hk hk2 => by obtain ⟨cs, hb⟩ := hF k hk2; exact h.ne_blk hb (by decide) hk)⟩
theorem OwnTgs.nil (w : World) : OwnTgs w (.slice none 0 0) [] := ⟨[], Own.nil _ _ _⟩
/-- The link's part, as its lists lie. -/
structure GivesLk (l : List Av) (w : World) (e : Ending) (w' : World) : Prop where
  ex : ∃ f t r, e = .returned (.tuple #[.agg #[f, t, r, .int .i64 0, .int .i64 0, .string ⟨#[]⟩, .string ⟨#[]⟩, .string ⟨#[]⟩], .bool (linked l)]) ∧
    (if linked l = true then OwnTgs w' f (osAv l 26) ∧ OwnTgs w' t (osAv l 27) ∧ OwnTgs w' r (osAv l 28) else f = .slice none 0 0 ∧ t = .slice none 0 0 ∧ r = .slice none 0 0)
  upd : Upd [] w w'
set_option maxHeartbeats 4000000 in
theorem rparseLink_any (l : List Av) (v : Value) (w : World) (hl : AvsAt w v l) (hsz : ∀ t ∈ l, t.val.size ≤ 140737488355328) :
    Calls Tryz.prog 23 #[v] w (GivesLk l w) := by
  obtain ⟨lk, hlk⟩ : ∃ x, x = linked l := ⟨_, rfl⟩
  have HLK := Lib.hid hlk
  have HL := Lib.hid hl
  have HS := Lib.hid hsz
  obtain ⟨wz, hwz⟩ : ∃ wz, wz = (w.alloc (.cells #[.slice none 0 0, .slice none 0 0, .slice none 0 0, .int .i64 0, .int .i64 0, .string ⟨#[]⟩, .string ⟨#[]⟩, .string ⟨#[]⟩] 50)).alloc (.cells #[.slice none 0 0, .slice none 0 0, .slice none 0 0] 139) := ⟨_, rfl⟩
  have HB0 : Hid (Blk wz w.heap.size 50 nilPx) := by show Blk _ _ _ _; rw [hwz]; exact (Blk.new _ _ _).alloc _
  have HA0 : Hid (Blk wz (w.heap.size + 1) 139 #[.slice none 0 0, .slice none 0 0, .slice none 0 0]) := by
    show Blk _ _ _ _
    have h := Blk.new (w.alloc (.cells nilPx 50)) 139 #[.slice none 0 0, .slice none 0 0, .slice none 0 0]
    rw [show (w.alloc (.cells nilPx 50)).heap.size = w.heap.size + 1 by simp] at h
    rw [hwz]
    exact h
  have HUz : Hid (Upd [] w wz) := by show Upd _ _ _; rw [hwz]; exact ((Upd.refl _ _).alloc _).alloc _
  have HWZ := Lib.hid hwz
  clear hwz hl hlk hsz
  go_enter Tryz.func23, Tryz.ntmps23
  go_wp2_with fail
  rw [← HWZ.out]
  go_loopg [5] 3 (fun m s5 wr => ∃ (k : Nat) (cs : Array Value), k + m = 3 ∧ s5 = .int .i64 k ∧ cs.size = 3 ∧ Blk wr (w.heap.size + 1) 139 cs ∧ (∀ j, j < k → osOk l (26 + (j : Int)) = true ∧ ∃ u own, cs[j]? = some u ∧ Own wr 131 2 u (osAv l (26 + (j : Int))).length (tgCells (osAv l (26 + (j : Int)))) own) ∧ Blk wr w.heap.size 50 nilPx ∧ Upd [] w wr)
  case atStart => exact ⟨0, _, by omega, rfl, rfl, HA0.out, by intro j hj; omega, HB0.out, HUz.out⟩
  case round =>
    obtain ⟨k, cs, hk, rfl, hcs, hA, hj, hB, hu⟩ := hrel
    have HA := Lib.hid hA
    have HJ := Lib.hid hj
    have HB := Lib.hid hB
    have HU := Lib.hid hu
    clear hA hj hB hu HWZ HA0 HB0 HUz
    by_cases t : k < 3
    · have ti : (k : Int) < 3 := by omega
      obtain ⟨s, hs⟩ : ∃ s, s = txtAv l (26 + (k : Int)) := ⟨_, rfl⟩
      obtain ⟨o, ho⟩ : ∃ s, s = oneAv l (26 + (k : Int)) := ⟨_, rfl⟩
      have H1 : Hid (∀ W, Upd [] w W → Calls Tryz.prog 116 #[v, .int .i64 (26 + (k : Int))] W fun e w' => e = .returned (.tuple #[.string s, .bool o]) ∧ Upd [] W w') := fun W hu => by rw [hs, ho]; exact rone_any l v _ W (HL.out.upd hu)
      obtain ⟨os, he⟩ : ∃ x, x = getOpts s := ⟨_, rfl⟩
      have H2 : Hid (∀ W, Calls Tryz.prog 117 #[.string s] W (GivesTgs os W)) := fun W => by rw [he]; exact rgetOptions_any s (by rw [hs]; exact txtAv_size l _ _ HS.out) W
      have HOK : Hid (osOk l (26 + (k : Int)) = (o && decide (os.2 = 0)) ∧ osAv l (26 + (k : Int)) = os.1) := by
        show _ ∧ _
        unfold osOk osAv
        rw [← hs, ← ho, ← he]
        exact ⟨rfl, rfl⟩
      obtain ⟨ol, oe⟩ := os
      simp only at HOK
      clear hs ho he
      go_wp2_with fail
      refine (H1.out _ HU.out).mono ?_
      rintro e w1 ⟨rfl, hu1⟩
      have HA1 := Lib.hid (HA.out.upd hu1 (by simp))
      have HB1 := Lib.hid (HB.out.upd hu1 (by simp))
      have HU1 := Lib.hid (HU.out.trans hu1)
      have HF1 := Lib.hid hu1
      clear hu1
      go_wp2_with fail
      refine (H2.out _).mono ?_
      rintro e w2 ⟨u, own, rfl, hown, hin, hu2⟩
      obtain ⟨au, cu, rfl, hu3, hu4⟩ := hown.shape
      have HO := Lib.hid hown
      have HA2 := Lib.hid (HA1.out.upd hu2 (by simp))
      have HB2 := Lib.hid (HB1.out.upd hu2 (by simp))
      have HU2 := Lib.hid (HU1.out.trans hu2)
      have HF2 := Lib.hid (HF1.out.trans hu2)
      clear hu2 hown hin HA1 HB1 HU1 HF1 hu3
      simp only at HO hu4 ⊢
      by_cases tb : o = true ∧ oe = 0
      · obtain ⟨rfl, rfl⟩ := tb
        have fz := HA2.out.frozen k
        have ck : w2.cell? ⟨w.heap.size + 1, k, none⟩ = some (cs[k]'(by omega)) := by rw [HA2.out.cell]; exact Array.getElem?_eq_getElem (by omega)
        go_wp2_with fail
        go_roundg (3 - (k + 1))
        case rel =>
          refine ⟨k + 1, cs.setIfInBounds k (.slice au ol.length cu), by omega, by go_num, by simp [hcs], HA2.out.set_ k _, fun j hj => ?_, HB2.out.far _ (by simp), HU2.out.setCell _ (.inr (by simp))⟩
          have us : Upd [w.heap.size + 1] w2 (w2.setCell ⟨w.heap.size + 1, k, none⟩ (.slice au ol.length cu)) := (Upd.refl _ _).setCell _ (by simp)
          by_cases hjk : j = k
          · subst hjk
            refine ⟨by rw [HOK.out.1]; rfl, .slice au ol.length cu, own, ?_, ?_⟩
            · rw [Array.getElem?_setIfInBounds, if_pos rfl, if_pos (by omega)]
            · rw [HOK.out.2]
              exact HO.out.setCell _ (HO.out.ne_blk HA2.out (by decide))
          · obtain ⟨h1, u, ow, h2, h3⟩ := HJ.out j (by omega)
            have h4 := h3.upd HF2.out (by simp)
            refine ⟨h1, u, ow, ?_, h4.setCell _ (h4.ne_blk HA2.out (by decide))⟩
            rw [Array.getElem?_setIfInBounds, if_neg (fun e => hjk e.symm)]
            exact h2
        case measure => omega
      · have HB3 : Hid (osOk l (26 + (k : Int)) = false) := by
          show _ = _
          rw [HOK.out.1]
          cases o
          · rfl
          · rw [decide_eq_false (fun h => tb ⟨rfl, h⟩)]; rfl
        have HL2 : Hid (linked l = false) := linked_bad t HB3.out
        obtain ⟨⟨c0, c1, c2, c3⟩, c4, c5, c6, c7⟩ := rpx_cells HB2.out
        obtain ⟨f0, f1, f2, f3, f4, f5, f6, f7⟩ := rpx_froz HB2.out
        cases o
        · go_wp2_with fail
          exact bodyPost_ret (v := .tuple #[.agg nilPx, .bool false]) (by simp [results, Tryz.results23, go_sem, c0, c1, c2, c3, c4, c5, c6, c7, nilPx]) rfl ⟨⟨_, _, _, by rw [HL2.out]; rfl, by rw [HL2.out]; exact ⟨rfl, rfl, rfl⟩⟩, by repeat (with_reducible first | refine Upd.setCell _ ?_ (.inr (Nat.le_refl _)) | exact HU2.out)⟩
        · have e9 : (oe != 0) = true := by simpa using tb
          clear tb
          go_wp2_with fail
          exact bodyPost_ret (v := .tuple #[.agg nilPx, .bool false]) (by simp [results, Tryz.results23, go_sem, c0, c1, c2, c3, c4, c5, c6, c7, nilPx]) rfl ⟨⟨_, _, _, by rw [HL2.out]; rfl, by rw [HL2.out]; exact ⟨rfl, rfl, rfl⟩⟩, by repeat (with_reducible first | refine Upd.setCell _ ?_ (.inr (Nat.le_refl _)) | exact HU2.out)⟩
    · obtain rfl : k = 3 := by omega
      obtain ⟨a1, u1, ow1, a2, a3⟩ := HJ.out 0 (by omega)
      obtain ⟨b1, u2, ow2, b2, b3⟩ := HJ.out 1 (by omega)
      obtain ⟨d1, u3, ow3, d2, d3⟩ := HJ.out 2 (by omega)
      rw [show (26 : Int) + ((0 : Nat) : Int) = 26 from rfl] at a1 a3
      rw [show (26 : Int) + ((1 : Nat) : Int) = 27 from rfl] at b1 b3
      rw [show (26 : Int) + ((2 : Nat) : Int) = 28 from rfl] at d1 d3
      have HL2 : Hid (linked l = true) := by show _ = _; unfold linked; rw [a1, b1, d1]; rfl
      have x0 := (HA.out.cell 0).trans a2
      have x1 := (HA.out.cell 1).trans b2
      have x2 := (HA.out.cell 2).trans d2
      have T1 := Lib.hid (tgs_own a3)
      have T2 := Lib.hid (tgs_own b3)
      have T3 := Lib.hid (tgs_own d3)
      have hne := HA.out.lt
      obtain ⟨⟨c0, c1, c2, c3⟩, c4, c5, c6, c7⟩ := rpx_cells HB.out
      obtain ⟨f0, f1, f2, f3, f4, f5, f6, f7⟩ := rpx_froz HB.out
      clear a1 b1 d1 a2 b2 d2 hk
      have hput : ∀ W : World, Upd [w.heap.size] wr W → OwnTgs W u1 (osAv l 26) ∧ OwnTgs W u2 (osAv l 27) ∧ OwnTgs W u3 (osAv l 28) := fun W hW =>
        ⟨OwnTgs.upd ⟨_, a3⟩ hW (fun k hk => by simp at hk; subst hk; exact ⟨_, HB.out⟩), OwnTgs.upd ⟨_, b3⟩ hW (fun k hk => by simp at hk; subst hk; exact ⟨_, HB.out⟩), OwnTgs.upd ⟨_, d3⟩ hW (fun k hk => by simp at hk; subst hk; exact ⟨_, HB.out⟩)⟩
      have HPUT := Lib.hid hput
      obtain ⟨su1, m1, rfl, -, -⟩ := a3.shape
      obtain ⟨su2, m2, rfl, -, -⟩ := b3.shape
      obtain ⟨su3, m3, rfl, -, -⟩ := d3.shape
      clear hput a3 b3 d3 T1 T2 T3
      generalize (osAv l 26).length = n1 at *
      generalize (osAv l 27).length = n2 at *
      generalize (osAv l 28).length = n3 at *
      go_wp2_with fail
      refine bodyPost_ret (v := .tuple #[.agg #[.slice su1 n1 m1, .slice su2 n2 m2, .slice su3 n3 m3, .int .i64 0, .int .i64 0, .string ⟨#[]⟩, .string ⟨#[]⟩, .string ⟨#[]⟩], .bool true]) (by simp [results, Tryz.results23, go_sem, c0, c1, c2, c3, c4, c5, c6, c7]) rfl ⟨⟨_, _, _, by rw [HL2.out], by rw [HL2.out, if_pos rfl]; refine HPUT.out _ ?_; repeat (with_reducible first | refine Upd.setCell _ ?_ (.inl (by simp)) | exact Upd.refl _ _)⟩, by repeat (with_reducible first | refine Upd.setCell _ ?_ (.inr (Nat.le_refl _)) | exact HU.out)⟩
end Go.Proofs.YtljiichcmljbgaaGreat
namespace Go.Proofs.YtljiichcmljbgaaGreat
open Go.RowKit
set_option linter.unusedSimpArgs false
set_option linter.unusedVariables false
set_option maxRecDepth 100000

theorem TgsAt.slice {w : World} {v : Value} {l : List Tg} (h : TgsAt w v l) : ∃ ao cap, v = .slice ao l.length cap := by
  obtain ⟨ao, cap, rfl, -⟩ := h
  exact ⟨ao, cap, rfl⟩
/-- The stages of region 6: so many fields are set. -/
structure rdA (w4 : World) (P Q R : Nat) (f t r : Value) (xk xi : Int) (xn xv xy : ByteArray) (k : Nat) (W : World) : Prop where
  p : Blk W P 50 #[f, t, r, if 1 ≤ k then .int .i64 xk else .int .i64 0, if 2 ≤ k then .int .i64 xi else .int .i64 0, if 3 ≤ k then .string xn else .string ⟨#[]⟩, if 4 ≤ k then .string xv else .string ⟨#[]⟩, if 5 ≤ k then .string xy else .string ⟨#[]⟩]
  q : Blk W Q 50 #[.slice none 0 0, .slice none 0 0, .slice none 0 0, .int .i64 xk, .int .i64 xi, .string xn, .string xv, .string xy]
  r : Blk W R 50 nilPx
  u : Upd [P] w4 W
structure GivesRx (x : Px) (lk cl : Bool) (w : World) (e : Ending) (w' : World) : Prop where
  ex : ∃ f t r, e = .returned (.tuple #[x.val f t r, .bool lk, .bool cl]) ∧ OwnTgs w' f x.first ∧ OwnTgs w' t x.tx ∧ OwnTgs w' r x.rx
  upd : Upd [] w w'
set_option maxHeartbeats 4000000 in
theorem rparse_any (l : List Av) (v : Value) (w : World) (hl : AvsAt w v l) (hsz : ∀ t ∈ l, t.val.size ≤ 140737488355328) :
    Calls Tryz.prog 7 #[v] w (GivesRx (parsed l) (linked l) (claimed l).2 w) := by
  have HL := Lib.hid hl
  have HS := Lib.hid hsz
  obtain ⟨E1, E2, E3⟩ := claimR_eq l
  have HE1 := Lib.hid E1
  have HE2 := Lib.hid E2
  have HE3 := Lib.hid E3
  have HPE := Lib.hid (parsed_eq l)
  obtain ⟨wz, hwz⟩ : ∃ wz, wz = w.alloc (.cells #[.slice none 0 0, .slice none 0 0, .slice none 0 0, .int .i64 0, .int .i64 0, .string ⟨#[]⟩, .string ⟨#[]⟩, .string ⟨#[]⟩] 50) := ⟨_, rfl⟩
  have HB0 : Hid (Blk wz w.heap.size 50 nilPx) := by show Blk _ _ _ _; rw [hwz]; exact Blk.new _ _ _
  have HUz : Hid (Upd [] w wz) := by show Upd _ _ _; rw [hwz]; exact (Upd.refl _ _).alloc _
  have HWZ := Lib.hid hwz
  clear hwz hl hsz E1 E2 E3
  go_enter Tryz.func7, Tryz.ntmps7
  go_wp2_with fail
  rw [← HWZ.out]
  refine (rparseLink_any l v _ (HL.out.upd HUz.out) HS.out).mono ?_
  rintro e w1 ⟨⟨vf, vt, vr, rfl, hlk⟩, hu1⟩
  have HU1 := Lib.hid (HUz.out.trans hu1)
  have HB1 := Lib.hid (HB0.out.upd hu1 (by simp))
  clear hu1 HWZ HUz HB0
  obtain ⟨lk, hlkd⟩ : ∃ x, x = linked l := ⟨_, rfl⟩
  rw [← hlkd] at hlk HPE ⊢
  have hsl : ∃ sf nf cf st nt ct sr nr cr, vf = .slice sf nf cf ∧ vt = .slice st nt ct ∧ vr = .slice sr nr cr := by
    cases lk
    · obtain ⟨h1, h2, h3⟩ := hlk
      exact ⟨_, _, _, _, _, _, _, _, _, h1, h2, h3⟩
    · obtain ⟨h1, h2, h3⟩ := hlk
      obtain ⟨_, _, e1⟩ := h1.tgs.slice
      obtain ⟨_, _, e2⟩ := h2.tgs.slice
      obtain ⟨_, _, e3⟩ := h3.tgs.slice
      exact ⟨_, _, _, _, _, _, _, _, _, e1, e2, e3⟩
  obtain ⟨sf, nf, cf, st, nt, ct, sr, nr, cr, rfl, rfl, rfl⟩ := hsl
  have HLK := Lib.hid hlk
  have HLKD : Hid (linked l = lk) := hlkd.symm
  clear hlk hlkd
  obtain ⟨P, hP⟩ : ∃ P, P = w1.heap.size := ⟨_, rfl⟩
  obtain ⟨w2, hw2⟩ : ∃ x, x = w1.alloc (.cells #[.slice sf nf cf, .slice st nt ct, .slice sr nr cr, .int .i64 0, .int .i64 0, .string ⟨#[]⟩, .string ⟨#[]⟩, .string ⟨#[]⟩] 50) := ⟨_, rfl⟩
  have HP2 : Hid (Blk w2 P 50 #[.slice sf nf cf, .slice st nt ct, .slice sr nr cr, .int .i64 0, .int .i64 0, .string ⟨#[]⟩, .string ⟨#[]⟩, .string ⟨#[]⟩]) := by show Blk _ _ _ _; rw [hw2, hP]; exact Blk.new _ _ _
  have HB2 : Hid (Blk w2 w.heap.size 50 nilPx) := by show Blk _ _ _ _; rw [hw2]; exact HB1.out.alloc _
  have HU2 : Hid (Upd [] w w2) := by show Upd _ _ _; rw [hw2]; exact HU1.out.alloc _
  have HF2 : Hid (Upd [] w1 w2) := by show Upd _ _ _; rw [hw2]; exact (Upd.refl _ _).alloc _
  have HW2 := Lib.hid hw2
  have HPP := Lib.hid hP
  have hlt : w.heap.size < P := by rw [hP]; exact HB1.out.lt
  clear hw2 hP HU1 HB1
  go_wp2_with fail
  rw [← HW2.out, ← HPP.out]
  refine (rparseAuth_any l v _ (HL.out.upd HU2.out) HS.out).mono ?_
  rintro e w3 ⟨rfl, hu3⟩
  have HP3 := Lib.hid (HP2.out.upd hu3 (by simp))
  have HB3 := Lib.hid (HB2.out.upd hu3 (by simp))
  have HU3 := Lib.hid (HU2.out.trans hu3)
  have HF3 := Lib.hid (HF2.out.trans hu3)
  clear hu3 HP2 HB2 HU2 HF2 HW2 HPP
  obtain ⟨⟨X, cl⟩, hX⟩ : ∃ x, x = claimR l := ⟨_, rfl⟩
  rw [← hX] at HE1 HE2 HE3 ⊢
  clear hX
  obtain ⟨x1, x2, x3, xk, xi, xn, xv, xy⟩ := X
  obtain ⟨y1, y2, y3⟩ := HE3.out
  simp only at y1 y2 y3
  subst y1 y2 y3
  clear HE3
  simp only [Px.val] at HE1 HE2 ⊢
  obtain ⟨Q, hQ⟩ : ∃ P, P = w3.heap.size := ⟨_, rfl⟩
  obtain ⟨w4, hw4⟩ : ∃ x, x = w3.alloc (.cells #[.slice none 0 0, .slice none 0 0, .slice none 0 0, .int .i64 xk, .int .i64 xi, .string xn, .string xv, .string xy] 50) := ⟨_, rfl⟩
  have HQ4 : Hid (Blk w4 Q 50 #[.slice none 0 0, .slice none 0 0, .slice none 0 0, .int .i64 xk, .int .i64 xi, .string xn, .string xv, .string xy]) := by show Blk _ _ _ _; rw [hw4, hQ]; exact Blk.new _ _ _
  have HP4 : Hid (Blk w4 P 50 #[.slice sf nf cf, .slice st nt ct, .slice sr nr cr, .int .i64 0, .int .i64 0, .string ⟨#[]⟩, .string ⟨#[]⟩, .string ⟨#[]⟩]) := by show Blk _ _ _ _; rw [hw4]; exact HP3.out.alloc _
  have HB4 : Hid (Blk w4 w.heap.size 50 nilPx) := by show Blk _ _ _ _; rw [hw4]; exact HB3.out.alloc _
  have HU4 : Hid (Upd [] w w4) := by show Upd _ _ _; rw [hw4]; exact HU3.out.alloc _
  have HF4 : Hid (Upd [] w1 w4) := by show Upd _ _ _; rw [hw4]; exact HF3.out.alloc _
  have HW4 := Lib.hid hw4
  have HQQ := Lib.hid hQ
  have hlq : P < Q := by rw [hQ]; exact HP3.out.lt
  clear hw4 hQ HP3 HB3 HU3 HF3
  go_upto_if 20 with (fail)
  rw [← HW4.out, ← HQQ.out]
  obtain ⟨⟨c0, c1, c2, c3⟩, c4, c5, c6, c7⟩ := rpx_cells HB4.out
  obtain ⟨cf0, cf1, cf2, cf3, cf4, cf5, cf6, cf7⟩ := rpx_froz HB4.out
  obtain ⟨⟨d0, d1, d2, d3⟩, d4, d5, d6, d7⟩ := rpx_cells HP4.out
  obtain ⟨df0, df1, df2, df3, df4, df5, df6, df7⟩ := rpx_froz HP4.out
  obtain ⟨⟨q0, q1, q2, q3⟩, q4, q5, q6, q7⟩ := rpx_cells HQ4.out
  obtain ⟨qf0, qf1, qf2, qf3, qf4, qf5, qf6, qf7⟩ := rpx_froz HQ4.out
  clear HW4 HQQ
  go_cut [] (fun V => ∃ f t r, Blk V P 50 #[f, t, r, .int .i64 0, .int .i64 0, .string ⟨#[]⟩, .string ⟨#[]⟩, .string ⟨#[]⟩] ∧ Blk V Q 50 #[.slice none 0 0, .slice none 0 0, .slice none 0 0, .int .i64 xk, .int .i64 xi, .string xn, .string xv, .string xy] ∧ Blk V w.heap.size 50 nilPx ∧ Upd [] w V ∧
    (∀ W, Upd [w.heap.size, P] V W → OwnTgs W f (if lk = true then osAv l 26 else []) ∧ OwnTgs W t (if lk = true then osAv l 27 else []) ∧ OwnTgs W r (if lk = true then osAv l 28 else [])))
  case first =>
    cases lk
    · obtain ⟨n1, n2, n3⟩ := HLK.out
      injection n1 with n1 n4 n5
      injection n2 with n2 n6 n7
      injection n3 with n3 n8 n9
      subst n1 n2 n3 n4 n5 n6 n7 n8 n9
      clear HLK
      go_wp2_with fail
      go_meet
      case rel =>
        refine ⟨_, _, _, ?_, ?_, ?_, ?_, fun W hW => ⟨OwnTgs.nil _, OwnTgs.nil _, OwnTgs.nil _⟩⟩
        · apply Blk.of_eq
          · repeat (with_reducible first | exact HP4.out | apply Blk.drewN | apply Blk.drew | apply Blk.set_)
          · rfl
        · repeat (with_reducible first | exact HQ4.out | apply Blk.drewN | apply Blk.drew | refine Blk.far _ ?_ ?_ | (show Q ≠ P; omega))
        · repeat (with_reducible first | exact HB4.out | apply Blk.drewN | apply Blk.drew | refine Blk.far _ ?_ ?_ | (show w.heap.size ≠ P; omega))
        · repeat (with_reducible first | refine Upd.setCell _ ?_ (.inr (show w.heap.size ≤ P by omega)) | apply Upd.drew | apply Upd.drewN | exact HU4.out)
    · go_wp2_with fail
      go_meet
      case rel =>
        obtain ⟨n1, n2, n3⟩ := HLK.out
        have hF : ∀ W, Upd [w.heap.size, P] w4 W → ∀ (k : Nat), k ∈ [w.heap.size, P] → ∃ cs, Blk w4 k 50 cs := fun W hW k hk => by
          simp at hk
          rcases hk with rfl | rfl
          · exact ⟨_, HB4.out⟩
          · exact ⟨_, HP4.out⟩
        exact ⟨_, _, _, HP4.out, HQ4.out, HB4.out, HU4.out, fun W hW => ⟨(n1.upd HF4.out (by simp)).upd hW (hF W hW), (n2.upd HF4.out (by simp)).upd hW (hF W hW), (n3.upd HF4.out (by simp)).upd hW (hF W hW)⟩⟩
  case rest =>
  obtain ⟨f, t, r, hp, hq, hr, hu, hlt3⟩ := hcut
  obtain ⟨sf', nf', cf', rfl⟩ : ∃ a n c, f = .slice a n c := by obtain ⟨_, _, e⟩ := ((hlt3 _ (Upd.refl _ _)).1).tgs.slice; exact ⟨_, _, _, e⟩
  obtain ⟨st', nt', ct', rfl⟩ : ∃ a n c, t = .slice a n c := by obtain ⟨_, _, e⟩ := ((hlt3 _ (Upd.refl _ _)).2.1).tgs.slice; exact ⟨_, _, _, e⟩
  obtain ⟨sr', nr', cr', rfl⟩ : ∃ a n c, r = .slice a n c := by obtain ⟨_, _, e⟩ := ((hlt3 _ (Upd.refl _ _)).2.2).tgs.slice; exact ⟨_, _, _, e⟩
  have HLT := Lib.hid hlt3
  have HU5 := Lib.hid hu
  have HCL : Hid ((claimed l).2 = cl) := HE1.out.symm
  clear HLK HB4 HP4 HQ4 HU4 HF4 hlt3 hu c0 c1 c2 c3 c4 c5 c6 c7 cf0 cf1 cf2 cf3 cf4 cf5 cf6 cf7 d0 d1 d2 d3 d4 d5 d6 d7 df0 df1 df2 df3 df4 df5 df6 df7 q0 q1 q2 q3 q4 q5 q6 q7 qf0 qf1 qf2 qf3 qf4 qf5 qf6 qf7
  cases cl
  · have HPX : Hid (parsed l = { Px.zero with first := if lk = true then osAv l 26 else [], tx := if lk = true then osAv l 27 else [], rx := if lk = true then osAv l 28 else [] }) := by
      show _ = _
      rw [HPE.out]
      unfold claimPx
      rw [HCL.out]
      cases lk <;> rfl
    obtain ⟨⟨c0, c1, c2, c3⟩, c4, c5, c6, c7⟩ := rpx_cells hr
    obtain ⟨cf0, cf1, cf2, cf3, cf4, cf5, cf6, cf7⟩ := rpx_froz hr
    obtain ⟨⟨d0, d1, d2, d3⟩, d4, d5, d6, d7⟩ := rpx_cells hp
    obtain ⟨df0, df1, df2, df3, df4, df5, df6, df7⟩ := rpx_froz hp
    clear hp hq hr
    go_wp2_with fail
    have HU5w := HU5
    refine bodyPost_ret (v := .tuple #[.agg #[.slice sf' nf' cf', .slice st' nt' ct', .slice sr' nr' cr', .int .i64 0, .int .i64 0, .string ⟨#[]⟩, .string ⟨#[]⟩, .string ⟨#[]⟩], .bool lk, .bool false])
      (by simp [results, Tryz.results7, go_sem, c0, c1, c2, c3, c4, c5, c6, c7]) rfl ?_
    rw [HPX.out, HCL.out, HLKD.out]
    refine ⟨⟨_, _, _, rfl, ?_, ?_, ?_⟩, ?_⟩
    · refine (HLT.out _ ?_).1
      repeat (with_reducible first | refine Upd.setCell _ ?_ (.inl (by simp)) | apply Upd.drew | apply Upd.drewN | exact Upd.refl _ _)
    · refine (HLT.out _ ?_).2.1
      repeat (with_reducible first | refine Upd.setCell _ ?_ (.inl (by simp)) | apply Upd.drew | apply Upd.drewN | exact Upd.refl _ _)
    · refine (HLT.out _ ?_).2.2
      repeat (with_reducible first | refine Upd.setCell _ ?_ (.inl (by simp)) | apply Upd.drew | apply Upd.drewN | exact Upd.refl _ _)
    · repeat (with_reducible first | refine Upd.setCell _ ?_ (.inr (Nat.le_refl _)) | exact HU5w.out)
  · have HPX : Hid (parsed l = ⟨if lk = true then osAv l 26 else [], if lk = true then osAv l 27 else [], if lk = true then osAv l 28 else [], xk, xi, xn, xv, xy⟩) := by
      show _ = _
      have h := HE2.out HCL.out
      rw [HPE.out]
      unfold claimPx
      rw [← h]
      cases lk <;> rfl
    have HA0 : Hid (rdA wc P Q w.heap.size (.slice sf' nf' cf') (.slice st' nt' ct') (.slice sr' nr' cr') xk xi xn xv xy 0 wc.drew) := ⟨hp.drew, hq.drew, hr.drew, (Upd.refl _ _).drew⟩
    clear hp hq hr
    go_wp2_with fail
    refine wp_region_chain [some (.pointer (some ⟨Q, 3, none⟩)), some (.int .i64 xk), some (.pointer (some ⟨Q, 4, none⟩)), some (.int .i64 xi), some (.pointer (some ⟨Q, 5, none⟩)), some (.string xn), some (.pointer (some ⟨Q, 6, none⟩)), some (.string xv), some (.pointer (some ⟨Q, 7, none⟩)), some (.string xy), some (.pointer (some ⟨P, 3, none⟩)), none, some (.pointer (some ⟨P, 4, none⟩)), none, some (.pointer (some ⟨P, 5, none⟩)), none, some (.pointer (some ⟨P, 6, none⟩)), none, some (.pointer (some ⟨P, 7, none⟩)), none] [11,13,15,17,19] ((fun vs W => rdA wc P Q w.heap.size (.slice sf' nf' cf') (.slice st' nt' ct') (.slice sr' nr' cr') xk xi xn xv xy vs.length W)) [(0, 0), (0, 0), (0, 1), (0, 1), (0, 2), (0, 2), (0, 3), (0, 3), (0, 4), (0, 4), (0, 0), (0, 0), (1, 1), (1, 1), (2, 2), (2, 2), (3, 3), (3, 3), (4, 4), (4, 4)] (by kernel_rfl) (by kernel_rfl) (by kernel_rfl) (by kernel_rfl) (by kernel_rfl) (by kernel_rfl) (HA0.out) ?_ ?_
    · refine StepsC.cons ?_ (StepsC.cons ?_ (StepsC.cons ?_ (StepsC.cons ?_ (StepsC.cons ?_ (StepsC.cons ?_ (StepsC.cons ?_ (StepsC.cons ?_ (StepsC.cons ?_ (StepsC.cons ?_ (StepsC.cons ?_ (StepsC.cons ?_ (StepsC.cons ?_ (StepsC.cons ?_ (StepsC.cons ?_ (StepsC.cons ?_ (StepsC.cons ?_ (StepsC.cons ?_ (StepsC.cons ?_ (StepsC.cons ?_ StepsC.nil)))))))))))))))))))
      · refine chain_is _ (.inl rfl) ⟨_, rfl⟩ (by kernel_rfl) rfl ?_
        intro a W kst l0 h0 A0 hF hD
        have k0 : kst = 0 := Nat.le_antisymm h0 l0
        subst k0
        clear l0 h0
        have e7 : a.tmps[7]?.getD undef = _ := (ev a 7).symm.trans (hF 7 (by kernel_rfl))
        clear hF hD
        go_simp
      · refine chain_is _ (.inl rfl) ⟨_, rfl⟩ (by kernel_rfl) rfl ?_
        intro a W kst l0 h0 A0 hF hD
        have k0 : kst = 0 := Nat.le_antisymm h0 l0
        subst k0
        clear l0 h0
        have e23 : a.tmps[23]?.getD undef = .pointer (some ⟨Q, 3, none⟩) := (ev a 23).symm.trans (hD _ (Array.mem_of_getElem? (i := 0) rfl) rfl)
        clear hF hD
        have hb : _ := rdA.q A0
        have hq0 := hb.cell 3
        simp only [List.size_toArray, List.length_cons, List.length_nil, List.getElem?_toArray, List.getElem?_cons_zero, List.getElem?_cons_succ] at hq0
        go_simp
      · refine chain_is _ (.inl rfl) ⟨_, rfl⟩ (by kernel_rfl) rfl ?_
        intro a W kst l0 h0 A0 hF hD
        have e7 : a.tmps[7]?.getD undef = _ := (ev a 7).symm.trans (hF 7 (by kernel_rfl))
        clear hF hD
        go_simp
      · refine chain_is _ (.inl rfl) ⟨_, rfl⟩ (by kernel_rfl) rfl ?_
        intro a W kst l0 h0 A0 hF hD
        have e25 : a.tmps[25]?.getD undef = .pointer (some ⟨Q, 4, none⟩) := (ev a 25).symm.trans (hD _ (Array.mem_of_getElem? (i := 0) rfl) rfl)
        clear hF hD
        have hb : _ := rdA.q A0
        have hq1 := hb.cell 4
        simp only [List.size_toArray, List.length_cons, List.length_nil, List.getElem?_toArray, List.getElem?_cons_zero, List.getElem?_cons_succ] at hq1
        go_simp
      · refine chain_is _ (.inl rfl) ⟨_, rfl⟩ (by kernel_rfl) rfl ?_
        intro a W kst l0 h0 A0 hF hD
        have e7 : a.tmps[7]?.getD undef = _ := (ev a 7).symm.trans (hF 7 (by kernel_rfl))
        clear hF hD
        go_simp
      · refine chain_is _ (.inl rfl) ⟨_, rfl⟩ (by kernel_rfl) rfl ?_
        intro a W kst l0 h0 A0 hF hD
        have e27 : a.tmps[27]?.getD undef = .pointer (some ⟨Q, 5, none⟩) := (ev a 27).symm.trans (hD _ (Array.mem_of_getElem? (i := 0) rfl) rfl)
        clear hF hD
        have hb : _ := rdA.q A0
        have hq2 := hb.cell 5
        simp only [List.size_toArray, List.length_cons, List.length_nil, List.getElem?_toArray, List.getElem?_cons_zero, List.getElem?_cons_succ] at hq2
        go_simp
      · refine chain_is _ (.inl rfl) ⟨_, rfl⟩ (by kernel_rfl) rfl ?_
        intro a W kst l0 h0 A0 hF hD
        have e7 : a.tmps[7]?.getD undef = _ := (ev a 7).symm.trans (hF 7 (by kernel_rfl))
        clear hF hD
        go_simp
      · refine chain_is _ (.inl rfl) ⟨_, rfl⟩ (by kernel_rfl) rfl ?_
        intro a W kst l0 h0 A0 hF hD
        have e29 : a.tmps[29]?.getD undef = .pointer (some ⟨Q, 6, none⟩) := (ev a 29).symm.trans (hD _ (Array.mem_of_getElem? (i := 0) rfl) rfl)
        clear hF hD
        have hb : _ := rdA.q A0
        have hq3 := hb.cell 6
        simp only [List.size_toArray, List.length_cons, List.length_nil, List.getElem?_toArray, List.getElem?_cons_zero, List.getElem?_cons_succ] at hq3
        go_simp
      · refine chain_is _ (.inl rfl) ⟨_, rfl⟩ (by kernel_rfl) rfl ?_
        intro a W kst l0 h0 A0 hF hD
        have e7 : a.tmps[7]?.getD undef = _ := (ev a 7).symm.trans (hF 7 (by kernel_rfl))
        clear hF hD
        go_simp
      · refine chain_is _ (.inl rfl) ⟨_, rfl⟩ (by kernel_rfl) rfl ?_
        intro a W kst l0 h0 A0 hF hD
        have e31 : a.tmps[31]?.getD undef = .pointer (some ⟨Q, 7, none⟩) := (ev a 31).symm.trans (hD _ (Array.mem_of_getElem? (i := 0) rfl) rfl)
        clear hF hD
        have hb : _ := rdA.q A0
        have hq4 := hb.cell 7
        simp only [List.size_toArray, List.length_cons, List.length_nil, List.getElem?_toArray, List.getElem?_cons_zero, List.getElem?_cons_succ] at hq4
        go_simp
      · refine chain_is _ (.inl rfl) ⟨_, rfl⟩ (by kernel_rfl) rfl ?_
        intro a W kst l0 h0 A0 hF hD
        have k0 : kst = 0 := Nat.le_antisymm h0 l0
        subst k0
        clear l0 h0
        have e5 : a.tmps[5]?.getD undef = _ := (ev a 5).symm.trans (hF 5 (by kernel_rfl))
        clear hF hD
        go_simp
      · refine chain_set (.inl rfl) rfl (by kernel_rfl) trivial ?_
        intro a W kst l0 h0 A0 hF hD
        have k0 : kst = 0 := Nat.le_antisymm h0 l0
        subst k0
        clear l0 h0
        have e33 : a.tmps[33]?.getD undef = .pointer (some ⟨P, 3, none⟩) := (ev a 33).symm.trans (hD _ (Array.mem_of_getElem? (i := 0) rfl) rfl)
        have e24 : a.tmps[24]?.getD undef = .int .i64 xk := (ev a 24).symm.trans (hD _ (Array.mem_of_getElem? (i := 1) rfl) rfl)
        clear hF hD
        have hA : rdA wc P Q w.heap.size (.slice sf' nf' cf') (.slice st' nt' ct') (.slice sr' nr' cr') xk xi xn xv xy 0 W := A0
        have hz := hA.p.frozen 3
        have hc := hA.p.cell 3
        simp only [List.size_toArray, List.length_cons, List.length_nil, List.getElem?_toArray, List.getElem?_cons_zero, List.getElem?_cons_succ] at hc
        exact ⟨W.setCell ⟨P, 3, none⟩ (.int .i64 xk), by (go_simp; first | done | rfl), (show rdA wc P Q w.heap.size (.slice sf' nf' cf') (.slice st' nt' ct') (.slice sr' nr' cr') xk xi xn xv xy 1 _ from ⟨Blk.of_eq (hA.p.set_ 3 (.int .i64 xk)) rfl, hA.q.far _ (show Q ≠ P by omega), hA.r.far _ (show w.heap.size ≠ P by omega), hA.u.setCell _ (by simp)⟩)⟩
      · refine chain_is _ (.inl rfl) ⟨_, rfl⟩ (by kernel_rfl) rfl ?_
        intro a W kst l0 h0 A0 hF hD
        have k0 : kst = 1 := Nat.le_antisymm h0 l0
        subst k0
        clear l0 h0
        have e5 : a.tmps[5]?.getD undef = _ := (ev a 5).symm.trans (hF 5 (by kernel_rfl))
        clear hF hD
        go_simp
      · refine chain_set (.inl rfl) rfl (by kernel_rfl) trivial ?_
        intro a W kst l0 h0 A0 hF hD
        have k0 : kst = 1 := Nat.le_antisymm h0 l0
        subst k0
        clear l0 h0
        have e34 : a.tmps[34]?.getD undef = .pointer (some ⟨P, 4, none⟩) := (ev a 34).symm.trans (hD _ (Array.mem_of_getElem? (i := 0) rfl) rfl)
        have e26 : a.tmps[26]?.getD undef = .int .i64 xi := (ev a 26).symm.trans (hD _ (Array.mem_of_getElem? (i := 1) rfl) rfl)
        clear hF hD
        have hA : rdA wc P Q w.heap.size (.slice sf' nf' cf') (.slice st' nt' ct') (.slice sr' nr' cr') xk xi xn xv xy 1 W := A0
        have hz := hA.p.frozen 4
        have hc := hA.p.cell 4
        simp only [List.size_toArray, List.length_cons, List.length_nil, List.getElem?_toArray, List.getElem?_cons_zero, List.getElem?_cons_succ] at hc
        exact ⟨W.setCell ⟨P, 4, none⟩ (.int .i64 xi), by (go_simp; first | done | rfl), (show rdA wc P Q w.heap.size (.slice sf' nf' cf') (.slice st' nt' ct') (.slice sr' nr' cr') xk xi xn xv xy 2 _ from ⟨Blk.of_eq (hA.p.set_ 4 (.int .i64 xi)) rfl, hA.q.far _ (show Q ≠ P by omega), hA.r.far _ (show w.heap.size ≠ P by omega), hA.u.setCell _ (by simp)⟩)⟩
      · refine chain_is _ (.inl rfl) ⟨_, rfl⟩ (by kernel_rfl) rfl ?_
        intro a W kst l0 h0 A0 hF hD
        have k0 : kst = 2 := Nat.le_antisymm h0 l0
        subst k0
        clear l0 h0
        have e5 : a.tmps[5]?.getD undef = _ := (ev a 5).symm.trans (hF 5 (by kernel_rfl))
        clear hF hD
        go_simp
      · refine chain_set (.inl rfl) rfl (by kernel_rfl) trivial ?_
        intro a W kst l0 h0 A0 hF hD
        have k0 : kst = 2 := Nat.le_antisymm h0 l0
        subst k0
        clear l0 h0
        have e35 : a.tmps[35]?.getD undef = .pointer (some ⟨P, 5, none⟩) := (ev a 35).symm.trans (hD _ (Array.mem_of_getElem? (i := 0) rfl) rfl)
        have e28 : a.tmps[28]?.getD undef = .string xn := (ev a 28).symm.trans (hD _ (Array.mem_of_getElem? (i := 1) rfl) rfl)
        clear hF hD
        have hA : rdA wc P Q w.heap.size (.slice sf' nf' cf') (.slice st' nt' ct') (.slice sr' nr' cr') xk xi xn xv xy 2 W := A0
        have hz := hA.p.frozen 5
        have hc := hA.p.cell 5
        simp only [List.size_toArray, List.length_cons, List.length_nil, List.getElem?_toArray, List.getElem?_cons_zero, List.getElem?_cons_succ] at hc
        exact ⟨W.setCell ⟨P, 5, none⟩ (.string xn), by (go_simp; first | done | rfl), (show rdA wc P Q w.heap.size (.slice sf' nf' cf') (.slice st' nt' ct') (.slice sr' nr' cr') xk xi xn xv xy 3 _ from ⟨Blk.of_eq (hA.p.set_ 5 (.string xn)) rfl, hA.q.far _ (show Q ≠ P by omega), hA.r.far _ (show w.heap.size ≠ P by omega), hA.u.setCell _ (by simp)⟩)⟩
      · refine chain_is _ (.inl rfl) ⟨_, rfl⟩ (by kernel_rfl) rfl ?_
        intro a W kst l0 h0 A0 hF hD
        have k0 : kst = 3 := Nat.le_antisymm h0 l0
        subst k0
        clear l0 h0
        have e5 : a.tmps[5]?.getD undef = _ := (ev a 5).symm.trans (hF 5 (by kernel_rfl))
        clear hF hD
        go_simp
      · refine chain_set (.inl rfl) rfl (by kernel_rfl) trivial ?_
        intro a W kst l0 h0 A0 hF hD
        have k0 : kst = 3 := Nat.le_antisymm h0 l0
        subst k0
        clear l0 h0
        have e36 : a.tmps[36]?.getD undef = .pointer (some ⟨P, 6, none⟩) := (ev a 36).symm.trans (hD _ (Array.mem_of_getElem? (i := 0) rfl) rfl)
        have e30 : a.tmps[30]?.getD undef = .string xv := (ev a 30).symm.trans (hD _ (Array.mem_of_getElem? (i := 1) rfl) rfl)
        clear hF hD
        have hA : rdA wc P Q w.heap.size (.slice sf' nf' cf') (.slice st' nt' ct') (.slice sr' nr' cr') xk xi xn xv xy 3 W := A0
        have hz := hA.p.frozen 6
        have hc := hA.p.cell 6
        simp only [List.size_toArray, List.length_cons, List.length_nil, List.getElem?_toArray, List.getElem?_cons_zero, List.getElem?_cons_succ] at hc
        exact ⟨W.setCell ⟨P, 6, none⟩ (.string xv), by (go_simp; first | done | rfl), (show rdA wc P Q w.heap.size (.slice sf' nf' cf') (.slice st' nt' ct') (.slice sr' nr' cr') xk xi xn xv xy 4 _ from ⟨Blk.of_eq (hA.p.set_ 6 (.string xv)) rfl, hA.q.far _ (show Q ≠ P by omega), hA.r.far _ (show w.heap.size ≠ P by omega), hA.u.setCell _ (by simp)⟩)⟩
      · refine chain_is _ (.inl rfl) ⟨_, rfl⟩ (by kernel_rfl) rfl ?_
        intro a W kst l0 h0 A0 hF hD
        have k0 : kst = 4 := Nat.le_antisymm h0 l0
        subst k0
        clear l0 h0
        have e5 : a.tmps[5]?.getD undef = _ := (ev a 5).symm.trans (hF 5 (by kernel_rfl))
        clear hF hD
        go_simp
      · refine chain_set (.inl rfl) rfl (by kernel_rfl) trivial ?_
        intro a W kst l0 h0 A0 hF hD
        have k0 : kst = 4 := Nat.le_antisymm h0 l0
        subst k0
        clear l0 h0
        have e37 : a.tmps[37]?.getD undef = .pointer (some ⟨P, 7, none⟩) := (ev a 37).symm.trans (hD _ (Array.mem_of_getElem? (i := 0) rfl) rfl)
        have e32 : a.tmps[32]?.getD undef = .string xy := (ev a 32).symm.trans (hD _ (Array.mem_of_getElem? (i := 1) rfl) rfl)
        clear hF hD
        have hA : rdA wc P Q w.heap.size (.slice sf' nf' cf') (.slice st' nt' ct') (.slice sr' nr' cr') xk xi xn xv xy 4 W := A0
        have hz := hA.p.frozen 7
        have hc := hA.p.cell 7
        simp only [List.size_toArray, List.length_cons, List.length_nil, List.getElem?_toArray, List.getElem?_cons_zero, List.getElem?_cons_succ] at hc
        exact ⟨W.setCell ⟨P, 7, none⟩ (.string xy), by (go_simp; first | done | rfl), (show rdA wc P Q w.heap.size (.slice sf' nf' cf') (.slice st' nt' ct') (.slice sr' nr' cr') xk xi xn xv xy 5 _ from ⟨Blk.of_eq (hA.p.set_ 7 (.string xy)) rfl, hA.q.far _ (show Q ≠ P by omega), hA.r.far _ (show w.heap.size ≠ P by omega), hA.u.setCell _ (by simp)⟩)⟩
    intro vals W hv hA
    have v0 : vals 0 = .pointer (some ⟨Q, 3, none⟩) := hv 0 (by decide)
    have v1 : vals 1 = .int .i64 xk := hv 1 (by decide)
    have v2 : vals 2 = .pointer (some ⟨Q, 4, none⟩) := hv 2 (by decide)
    have v3 : vals 3 = .int .i64 xi := hv 3 (by decide)
    have v4 : vals 4 = .pointer (some ⟨Q, 5, none⟩) := hv 4 (by decide)
    have v5 : vals 5 = .string xn := hv 5 (by decide)
    have v6 : vals 6 = .pointer (some ⟨Q, 6, none⟩) := hv 6 (by decide)
    have v7 : vals 7 = .string xv := hv 7 (by decide)
    have v8 : vals 8 = .pointer (some ⟨Q, 7, none⟩) := hv 8 (by decide)
    have v9 : vals 9 = .string xy := hv 9 (by decide)
    have v10 : vals 10 = .pointer (some ⟨P, 3, none⟩) := hv 10 (by decide)
    have v12 : vals 12 = .pointer (some ⟨P, 4, none⟩) := hv 12 (by decide)
    have v14 : vals 14 = .pointer (some ⟨P, 5, none⟩) := hv 14 (by decide)
    have v16 : vals 16 = .pointer (some ⟨P, 6, none⟩) := hv 16 (by decide)
    have v18 : vals 18 = .pointer (some ⟨P, 7, none⟩) := hv 18 (by decide)
    clear hv
    have h6 : rdA wc P Q w.heap.size (.slice sf' nf' cf') (.slice st' nt' ct') (.slice sr' nr' cr') xk xi xn xv xy 5 W := hA
    simp only [putAll, Act.put, Nat.zero_add, Nat.reduceAdd, v0, v1, v2, v3, v4, v5, v6, v7, v8, v9, v10, v12, v14, v16, v18, List.setIfInBounds_toArray, List.set_cons_zero, List.set_cons_succ]
    clear v0 v1 v2 v3 v4 v5 v6 v7 v8 v9 v10 v12 v14 v16 v18
    have c := h6.r
    have d := h6.p
    clear HA0
    obtain ⟨⟨c0, c1, c2, c3⟩, c4, c5, c6, c7⟩ := rpx_cells c
    obtain ⟨cf0, cf1, cf2, cf3, cf4, cf5, cf6, cf7⟩ := rpx_froz c
    obtain ⟨⟨d0, d1, d2, d3⟩, d4, d5, d6, d7⟩ := rpx_cells d
    obtain ⟨df0, df1, df2, df3, df4, df5, df6, df7⟩ := rpx_froz d
    have HU6 := Lib.hid h6.u
    clear h6 c d
    go_wp2_with fail
    have HU5w : Hid (Upd [] w W) := HU5.out.trans' HU6.out (fun y hy => .inr (by simp at hy; subst hy; omega))
    refine bodyPost_ret (v := .tuple #[.agg #[.slice sf' nf' cf', .slice st' nt' ct', .slice sr' nr' cr', .int .i64 xk, .int .i64 xi, .string xn, .string xv, .string xy], .bool lk, .bool true])
      (by simp [results, Tryz.results7, go_sem, c0, c1, c2, c3, c4, c5, c6, c7]) rfl ?_
    rw [HPX.out, HCL.out, HLKD.out]
    refine ⟨⟨_, _, _, rfl, ?_, ?_, ?_⟩, ?_⟩
    · refine (HLT.out _ ?_).1
      repeat (with_reducible first | refine Upd.setCell _ ?_ (.inl (by simp)) | exact HU6.out.mono (by simp))
    · refine (HLT.out _ ?_).2.1
      repeat (with_reducible first | refine Upd.setCell _ ?_ (.inl (by simp)) | exact HU6.out.mono (by simp))
    · refine (HLT.out _ ?_).2.2
      repeat (with_reducible first | refine Upd.setCell _ ?_ (.inl (by simp)) | exact HU6.out.mono (by simp))
    · repeat (with_reducible first | refine Upd.setCell _ ?_ (.inr (Nat.le_refl _)) | exact HU5w.out)
end Go.Proofs.YtljiichcmljbgaaGreat
