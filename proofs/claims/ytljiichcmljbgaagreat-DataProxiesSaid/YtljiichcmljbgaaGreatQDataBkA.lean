/- The walk of chapter 23's light; what is kept in DataBack's great region. -/
import Derived.Test.YtljiichcmljbgaaGreatQDataBkP
import Derived.Test.YtljiichcmljbgaaGreatQRes
import Derived.Test.YtljiichcmljbgaaGreatQLightO
namespace Go.Proofs.YtljiichcmljbgaaGreat
open Go.RowKit
set_option linter.unusedSimpArgs false
set_option linter.unusedVariables false
set_option maxRecDepth 100000

def lightP (p : Px) : Bool := LightO p.first && (LightO p.tx && (LightO p.rx && decide (p.name.size + p.value.size + p.reply.size ≤ 3000)))
set_option maxHeartbeats 2000000 in
theorem lightP_any (p : Px) (f t r : Value) (w : World) (hf : TgsAt w f p.first) (ht : TgsAt w t p.tx) (hr : TgsAt w r p.rx) (hs : ∀ l ∈ p.ls, ∀ t ∈ l, t.s.size ≤ 140737488355328)
    (hz : p.name.size ≤ 140737488355328 ∧ p.value.size ≤ 140737488355328 ∧ p.reply.size ≤ 140737488355328) :
    Calls Tryz.prog 4 #[p.val f t r] w fun e w' => e = .returned (.bool (lightP p)) ∧ Upd [] w w' := by
  obtain ⟨a1, c1, rfl, -, -, -⟩ := id hf
  obtain ⟨a2, c2, rfl, -, -, -⟩ := id ht
  obtain ⟨a3, c3, rfl, -, -, -⟩ := id hr
  have HH := Lib.hid (And.intro hf (And.intro ht hr))
  have HS := Lib.hid hs
  obtain ⟨hz1, hz2, hz3⟩ := hz
  have B1 : Hid (Blk (w.alloc (.cells (p.cells (.slice a1 p.first.length c1) (.slice a2 p.tx.length c2) (.slice a3 p.rx.length c3)) 24)) w.heap.size 24 (p.cells (.slice a1 p.first.length c1) (.slice a2 p.tx.length c2) (.slice a3 p.rx.length c3))) := Blk.new _ _ _
  have U1 : Hid (Upd [] w (w.alloc (.cells (p.cells (.slice a1 p.first.length c1) (.slice a2 p.tx.length c2) (.slice a3 p.rx.length c3)) 24))) := (Upd.refl _ _).alloc _
  have hw1 : True → wrap64 ((p.name.size : Int) + p.value.size) = (p.name.size : Int) + p.value.size := fun _ => IntWalk.wrap64_in _ (by omega)
  have hw2 : True → wrap64 ((p.name.size : Int) + p.value.size + p.reply.size) = (p.name.size : Int) + p.value.size + p.reply.size := fun _ => IntWalk.wrap64_in _ (by omega)
  have HD : Hid (decide (p.name.size + p.value.size + p.reply.size ≤ 3000) = decide ((p.name.size : Int) + p.value.size + p.reply.size ≤ 3000)) := decide_eq_decide.2 (by omega)
  have HQ : Hid (lightP p = (LightO p.first && (LightO p.tx && (LightO p.rx && decide ((p.name.size : Int) + p.value.size + p.reply.size ≤ 3000))))) := by show _ = _; rw [lightP, HD.out]
  rw [HQ.out]
  clear hf ht hr hs
  cases t1 : LightO p.first with
  | false =>
    have T1 := Lib.hid t1
    clear t1
    go_enter Tryz.func4, Tryz.ntmps4
    simp only [Px.val]
    go_wp2_with fail
    refine (lightO_any p.first _ _ (HH.out.1.upd U1.out) (HS.out _ (by simp [Px.ls]))).mono ?_
    rintro e w1 ⟨rfl, hu1⟩
    rw [T1.out]
    go_wp2_with fail
    go_ret
    exact ⟨rfl, U1.out.trans hu1⟩
  | true =>
    have T1 := Lib.hid t1
    clear t1
    cases t2 : LightO p.tx with
    | false =>
      have T2 := Lib.hid t2
      clear t2
      go_enter Tryz.func4, Tryz.ntmps4
      simp only [Px.val]
      go_wp2_with fail
      refine (lightO_any p.first _ _ (HH.out.1.upd U1.out) (HS.out _ (by simp [Px.ls]))).mono ?_
      rintro e w1 ⟨rfl, hu1⟩
      rw [T1.out]
      obtain ⟨⟨x0, x1, x2, x3⟩, x4, x5, x6, x7⟩ := Px.cells_at (B1.out.upd hu1 (by simp))
      have HU1 := Lib.hid (U1.out.trans hu1)
      clear hu1
      go_wp2_with fail
      refine (lightO_any p.tx _ _ (HH.out.2.1.upd HU1.out) (HS.out _ (by simp [Px.ls]))).mono ?_
      rintro e w2 ⟨rfl, hu2⟩
      rw [T2.out]
      go_wp2_with fail
      go_ret
      exact ⟨rfl, HU1.out.trans hu2⟩
    | true =>
      have T2 := Lib.hid t2
      clear t2
      cases t3 : LightO p.rx with
      | false =>
        have T3 := Lib.hid t3
        clear t3
        go_enter Tryz.func4, Tryz.ntmps4
        simp only [Px.val]
        go_wp2_with fail
        refine (lightO_any p.first _ _ (HH.out.1.upd U1.out) (HS.out _ (by simp [Px.ls]))).mono ?_
        rintro e w1 ⟨rfl, hu1⟩
        rw [T1.out]
        obtain ⟨⟨x0, x1, x2, x3⟩, x4, x5, x6, x7⟩ := Px.cells_at (B1.out.upd hu1 (by simp))
        have HV1 := Lib.hid hu1
        have HU1 := Lib.hid (U1.out.trans hu1)
        clear hu1
        go_wp2_with fail
        refine (lightO_any p.tx _ _ (HH.out.2.1.upd HU1.out) (HS.out _ (by simp [Px.ls]))).mono ?_
        rintro e w2 ⟨rfl, hu2⟩
        rw [T2.out]
        have HU2 := Lib.hid (HU1.out.trans hu2)
        have hv2 := HV1.out.trans hu2
        clear hu2 x0 x1 x2 x3 x4 x5 x6 x7
        obtain ⟨⟨x0, x1, x2, x3⟩, x4, x5, x6, x7⟩ := Px.cells_at (B1.out.upd hv2 (by simp))
        clear hv2
        go_wp2_with fail
        refine (lightO_any p.rx _ _ (HH.out.2.2.upd HU2.out) (HS.out _ (by simp [Px.ls]))).mono ?_
        rintro e w3 ⟨rfl, hu3⟩
        rw [T3.out]
        go_wp2_with fail
        go_ret
        exact ⟨rfl, HU2.out.trans hu3⟩
      | true =>
        have T3 := Lib.hid t3
        clear t3
        go_enter Tryz.func4, Tryz.ntmps4
        simp only [Px.val]
        go_wp2_with fail
        refine (lightO_any p.first _ _ (HH.out.1.upd U1.out) (HS.out _ (by simp [Px.ls]))).mono ?_
        rintro e w1 ⟨rfl, hu1⟩
        rw [T1.out]
        obtain ⟨⟨x0, x1, x2, x3⟩, x4, x5, x6, x7⟩ := Px.cells_at (B1.out.upd hu1 (by simp))
        have HV1 := Lib.hid hu1
        have HU1 := Lib.hid (U1.out.trans hu1)
        clear hu1
        go_wp2_with fail
        refine (lightO_any p.tx _ _ (HH.out.2.1.upd HU1.out) (HS.out _ (by simp [Px.ls]))).mono ?_
        rintro e w2 ⟨rfl, hu2⟩
        rw [T2.out]
        have HU2 := Lib.hid (HU1.out.trans hu2)
        have hv2 := HV1.out.trans hu2
        have HV2 := Lib.hid hv2
        clear hu2 x0 x1 x2 x3 x4 x5 x6 x7
        obtain ⟨⟨x0, x1, x2, x3⟩, x4, x5, x6, x7⟩ := Px.cells_at (B1.out.upd hv2 (by simp))
        clear hv2
        go_wp2_with fail
        refine (lightO_any p.rx _ _ (HH.out.2.2.upd HU2.out) (HS.out _ (by simp [Px.ls]))).mono ?_
        rintro e w3 ⟨rfl, hu3⟩
        rw [T3.out]
        have HU3 := Lib.hid (HU2.out.trans hu3)
        have hv3 := HV2.out.trans hu3
        clear hu3 x0 x1 x2 x3 x4 x5 x6 x7
        obtain ⟨⟨x0, x1, x2, x3⟩, x4, x5, x6, x7⟩ := Px.cells_at (B1.out.upd hv3 (by simp))
        clear hv3
        go_wp2_with fail
        go_ret
        exact ⟨by simp, HU3.out⟩

/-! ### the great region: a copy of the values, its first one behind it, read -/
def bkA (w0 : World) (n : Nat) (B : List Av) (c : Av) (vs : List Value) (w : World) : Prop := match vs with
  | [] => Upd [] w0 w
  | [a] => Upd [] w0 w ∧ ∃ ao cap own, a = .slice ao (0 + n) cap ∧ Own w 67 5 (.slice ao (0 + n) cap) (0 + n) ([] ++ avCells B) own ∧ ∀ y, y ∈ own → w0.heap.size ≤ y
  | [_, b] => Upd [] w0 w ∧ ∃ ao cap, b = .slice ao (B ++ [c]).length cap ∧ AvsAt w (.slice ao (B ++ [c]).length cap) (B ++ [c])
  | _ => Upd [] w0 w
theorem bkA_keep {w0 w w' : World} {n : Nat} {B : List Av} {c : Av} {vs : List Value} (h : bkA w0 n B c vs w) (hu : Upd [] w w') : bkA w0 n B c vs w' := by
  match vs, h with
  | [], h => exact Upd.trans (show Upd [] w0 w from h) hu
  | [a], ⟨h1, ao, cap, own, h2, h3, h4⟩ => exact ⟨h1.trans hu, ao, cap, own, h2, h3.upd hu (by simp), h4⟩
  | [_, b], ⟨h1, ao, cap, h2, h3⟩ => exact ⟨h1.trans hu, ao, cap, h2, h3.upd hu⟩
  | _ :: _ :: _ :: _, h => exact Upd.trans (show Upd [] w0 w from h) hu
theorem bkA_upd {w0 w : World} {n : Nat} {B : List Av} {c : Av} {vs : List Value} (h : bkA w0 n B c vs w) : Upd [] w0 w := by
  match vs, h with
  | [], h => exact h
  | [a], ⟨h1, _⟩ => exact h1
  | [_, b], ⟨h1, _⟩ => exact h1
  | _ :: _ :: _ :: _, h => exact h
def bkB (w0 : World) (c : Av) (vs : List Value) (w : World) : Prop := match vs with
  | [a] => Upd [] w0 w ∧ Rd w 5 a 1 (avCells [c])
  | _ => Upd [] w0 w
theorem bkB_keep {w0 w w' : World} {c : Av} {vs : List Value} (h : bkB w0 c vs w) (hu : Upd [] w w') : bkB w0 c vs w' := by
  match vs, h with
  | [], h => exact Upd.trans (show Upd [] w0 w from h) hu
  | [a], ⟨h1, h2⟩ => exact ⟨h1.trans hu, h2.upd hu⟩
  | _ :: _ :: _, h => exact Upd.trans (show Upd [] w0 w from h) hu
def bkC (w0 : World) (cs : Array Value) (vs : List Value) (w : World) : Prop := match vs with
  | [] => Upd [] w0 w
  | [a] => Upd [] w0 w ∧ ∃ g, w0.heap.size ≤ g ∧ a = .pointer (some ⟨g, 0, none⟩) ∧ Blk w g 24 (Px.zero.cells (.slice none 0 0) (.slice none 0 0) (.slice none 0 0))
  | a :: _ => Upd [] w0 w ∧ ∃ g, w0.heap.size ≤ g ∧ a = .pointer (some ⟨g, 0, none⟩) ∧ Blk w g 24 cs
theorem bkC_keep {w0 w w' : World} {cs : Array Value} {vs : List Value} (h : bkC w0 cs vs w) (hu : Upd [] w w') : bkC w0 cs vs w' := by
  match vs, h with
  | [], h => exact Upd.trans (show Upd [] w0 w from h) hu
  | [a], ⟨h1, g, h2, h3, h4⟩ => exact ⟨h1.trans hu, g, h2, h3, h4.upd hu (by simp)⟩
  | a :: _ :: _, ⟨h1, g, h2, h3, h4⟩ => exact ⟨h1.trans hu, g, h2, h3, h4.upd hu (by simp)⟩
/-- It is kept where a slice of values is appended to. -/
theorem bkC_grow {w0 w w' : World} {cs : Array Value} {vs : List Value} {v : Value} {n : Nat} {xs : List Value} {own : List Nat} (h : bkC w0 cs vs w) (ho : Own w 67 5 v n xs own) (hf : ∀ y, y ∈ own → w0.heap.size ≤ y) (hu : Upd own w w') : bkC w0 cs vs w' := by
  have hu0 : ∀ {a : World}, Upd [] a w → a.heap.size = w0.heap.size → Upd [] a w' := fun h1 he => h1.trans' hu (fun y hy => .inr (by rw [he]; exact hf y hy))
  match vs, h with
  | [], h => exact hu0 (show Upd [] w0 w from h) rfl
  | [a], ⟨h1, g, h2, h3, h4⟩ => exact ⟨hu0 h1 rfl, g, h2, h3, h4.upd hu (ho.ne_blk h4 (by decide))⟩
  | a :: _ :: _, ⟨h1, g, h2, h3, h4⟩ => exact ⟨hu0 h1 rfl, g, h2, h3, h4.upd hu (ho.ne_blk h4 (by decide))⟩
theorem build_small (p : Px) : ∀ x ∈ p.build, x.val.size ≤ 1000 := by
  intro x hx
  unfold Px.build at hx
  split at hx
  · simp at hx
  · split at hx
    · simp at hx
    · rename_i h
      have : ¬ bigAv x = true := fun hb => h (List.any_eq_true.2 ⟨x, hx, hb⟩)
      simp [bigAv] at this
      exact this
end Go.Proofs.YtljiichcmljbgaaGreat
