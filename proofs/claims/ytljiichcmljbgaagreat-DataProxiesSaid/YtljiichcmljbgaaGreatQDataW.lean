/- The walks of chapter 23's first call (alive), of data.Same at proxies that are the same. -/
import Derived.Test.YtljiichcmljbgaaGreatQDataA
import Derived.Test.YtljiichcmljbgaaGreatQDataU
import Derived.Test.YtljiichcmljbgaaGreatQDataV
namespace Go.Proofs.YtljiichcmljbgaaGreat
open Go.RowKit
set_option linter.unusedSimpArgs false
set_option linter.unusedVariables false
set_option maxRecDepth 100000

def alP : Px := ⟨[], [], [], 3, 1, ⟨#[110]⟩, ⟨#[]⟩, ⟨#[114]⟩⟩
theorem alP_facts : alP.build.length = 7 ∧ (parsed alP.build).name = ⟨#[110]⟩ ∧ (parsed alP.build).kind = 3 ∧ linked alP.build = true ∧ (claimed alP.build).2 = true ∧ (alP.build.all fun t => decide (t.val.size ≤ 2)) = true := by decide +kernel
def alW : Wy := Wy.new 1 2 true
def alL (n : Int) (d : ByteArray) : Ld := ⟨0, 0, true, n, 0, d⟩
def alW1 : Wy := ⟨1, 2, true, 0, 5, true, 0, 1, 0⟩
def alW2 : Wy := ⟨1, 2, true, 0, 5, true, 0, 1, 1⟩
def alW3 : Wy := ⟨1, 2, true, 0, 5, true, 0, 1, 2⟩
def alW4 : Wy := ⟨1, 2, true, 0, 6, true, 0, 2, 2⟩
theorem alW_get : alW.get (alL 5 ⟨#[]⟩) = (alW1, ⟨#[]⟩, true) ∧ alW1.get (alL 5 ⟨#[]⟩) = (alW2, ⟨#[]⟩, false) ∧ alW2.get (alL 65530 ⟨#[]⟩) = (alW3, ⟨#[]⟩, false) ∧ alW3.get (alL 6 ⟨#[120]⟩) = (alW4, ⟨#[120]⟩, true) := by
  refine ⟨?_, ?_, ?_, ?_⟩ <;> rfl
theorem alW_ok : alW.ok ∧ alW1.ok ∧ alW2.ok ∧ alW3.ok := by
  refine ⟨?_, ?_, ?_, ?_⟩ <;> constructor <;> decide

set_option maxHeartbeats 4000000 in
theorem dalive_any (w : World) : Calls Tryz.prog 6 #[] w fun e w' => e = .returned (.bool true) ∧ Upd [] w w' := by
  have HG := Lib.hid alW_get
  have HO := Lib.hid alW_ok
  obtain ⟨B, hB⟩ : ∃ B, B = alP.build := ⟨_, rfl⟩
  have hF := alP_facts
  rw [← hB] at hF
  have HF := Lib.hid hF
  have HB := Lib.hid hB
  have HN : Hid (newOk 1 2 = true) := by show _ = _; decide
  clear hF hB
  go_enter Tryz.func6, Tryz.ntmps6
  go_wp2_with fail
  have h0 := new_any 1 2 true w
  simp only [HN.out, ↓reduceIte] at h0
  refine h0.mono ?_
  rintro e w1 ⟨rfl, hw1, hu1⟩
  clear h0
  have HW1 := Lib.hid hw1
  have HU1 := Lib.hid hu1
  have hl1 : w.heap.size < w1.heap.size := Blk.lt hw1
  obtain ⟨b, hb⟩ : ∃ b, b = w.heap.size := ⟨_, rfl⟩
  have HBB : Hid (w.heap.size ≤ b) := by show _ ≤ _; omega
  rw [← hb] at HW1 ⊢
  clear hw1 hu1 hb hl1
  go_wp2_with fail
  refine (wayGet_any b alW (alL 5 ⟨#[]⟩) _ HW1.out HO.out.1).mono ?_
  rintro e w2 ⟨rfl, hw2, hu2⟩
  rw [HG.out.1] at hw2 ⊢
  have HW2 := Lib.hid hw2
  have HU2 : Hid (Upd [] w w2) := HU1.out.trans' hu2 (fun y hy => .inr (by have := HBB.out; simp at hy; omega))
  clear hw2 hu2
  go_wp2_with fail
  refine (wayGet_any b alW1 (alL 5 ⟨#[]⟩) _ HW2.out HO.out.2.1).mono ?_
  rintro e w3 ⟨rfl, hw3, hu3⟩
  rw [HG.out.2.1] at hw3 ⊢
  have HW3 := Lib.hid hw3
  have HU3 : Hid (Upd [] w w3) := HU2.out.trans' hu3 (fun y hy => .inr (by have := HBB.out; simp at hy; omega))
  clear hw3 hu3
  go_wp2_with fail
  refine (wayGet_any b alW2 (alL 65530 ⟨#[]⟩) _ HW3.out HO.out.2.2.1).mono ?_
  rintro e w4 ⟨rfl, hw4, hu4⟩
  rw [HG.out.2.2.1] at hw4 ⊢
  have HW4 := Lib.hid hw4
  have HU4 : Hid (Upd [] w w4) := HU3.out.trans' hu4 (fun y hy => .inr (by have := HBB.out; simp at hy; omega))
  clear hw4 hu4
  go_wp2_with fail
  refine (wayGet_any b alW3 (alL 6 ⟨#[120]⟩) _ HW4.out HO.out.2.2.2).mono ?_
  rintro e w5 ⟨rfl, hw5, hu5⟩
  rw [HG.out.2.2.2] at hw5 ⊢
  have HU5 : Hid (Upd [] w w5) := HU4.out.trans' hu5 (fun y hy => .inr (by have := HBB.out; simp at hy; omega))
  clear hw5 hu5
  go_wp2_with fail
  refine (build_any alP (.slice none 0 0) (.slice none 0 0) (.slice none 0 0) _ (TgsAt.nil _) (TgsAt.nil _) (TgsAt.nil _) (by simp [Px.ls, alP]) (by refine ⟨?_, ?_, ?_⟩ <;> decide)).mono ?_
  rintro e w6 ⟨v6, rfl, ho6, hu6⟩
  rw [← HB.out] at ho6
  obtain ⟨own6, ho6, hi6⟩ := ho6
  obtain ⟨ao6, cap6, rfl, -, -⟩ := ho6.shape
  have HA6 := Lib.hid (AvsAt.of_own ho6)
  rw [HF.out.1] at HA6 ⊢
  have HU6 := Lib.hid (HU5.out.trans hu6)
  clear ho6 hi6 hu6
  go_wp2_with fail
  refine (parse_any B _ _ HA6.out (fun t ht => by have := List.all_eq_true.1 HF.out.2.2.2.2.2 t ht; simp at this; omega)).mono ?_
  rintro e w7 ⟨⟨f7, t7, r7, o1, o2, o3, rfl, hf7, ht7, hr7, -, -, -, -, -⟩, hu7⟩
  rw [HF.out.2.2.2.1, HF.out.2.2.2.2.1]
  obtain ⟨af, cf, rfl, -, -⟩ := hf7.shape
  obtain ⟨at_, ct, rfl, -, -⟩ := ht7.shape
  obtain ⟨ar, cr, rfl, -, -⟩ := hr7.shape
  have HU7 := Lib.hid (HU6.out.trans hu7)
  obtain ⟨X, hp⟩ : ∃ X, parsed B = X := ⟨_, rfl⟩
  obtain ⟨pf, pt, pr, pk, pi, pn, pv, pp⟩ := X
  rw [hp]
  have e1 := HF.out.2.1
  have e2 := HF.out.2.2.1
  rw [hp] at e1 e2
  simp only at e1 e2
  subst e1 e2
  clear hf7 ht7 hr7 hu7 hp
  simp only [Px.val]
  go_wp2_with fail
  go_ret
  exact ⟨rfl, HU7.out.alloc _⟩

set_option maxHeartbeats 4000000 in
theorem dsame_any (p : Px) (f t r f' t' r' : Value) (w : World) (hf : TgsAt w f p.first) (ht : TgsAt w t p.tx) (hr : TgsAt w r p.rx) (hf' : TgsAt w f' p.first) (ht' : TgsAt w t' p.tx) (hr' : TgsAt w r' p.rx) :
    Calls Tryz.prog 15 #[p.val f t r, p.val f' t' r'] w fun e w' => e = .returned (.bool true) ∧ Upd [] w w' := by
  obtain ⟨a1, c1, rfl, -, -, -⟩ := id hf
  obtain ⟨a2, c2, rfl, -, -, -⟩ := id ht
  obtain ⟨a3, c3, rfl, -, -, -⟩ := id hr
  obtain ⟨a4, c4, rfl, -, -, -⟩ := id hf'
  obtain ⟨a5, c5, rfl, -, -, -⟩ := id ht'
  obtain ⟨a6, c6, rfl, -, -, -⟩ := id hr'
  have HH := Lib.hid (And.intro hf (And.intro ht (And.intro hr (And.intro hf' (And.intro ht' hr')))))
  generalize p.first.length = n1 at *
  generalize p.tx.length = n2 at *
  generalize p.rx.length = n3 at *
  obtain ⟨wz, hwz⟩ : ∃ wz, wz = (w.alloc (.cells (p.cells (.slice a1 n1 c1) (.slice a2 n2 c2) (.slice a3 n3 c3)) 24)).alloc (.cells (p.cells (.slice a4 n1 c4) (.slice a5 n2 c5) (.slice a6 n3 c6)) 24) := ⟨_, rfl⟩
  have HB1 : Hid (Blk wz w.heap.size 24 (p.cells (.slice a1 n1 c1) (.slice a2 n2 c2) (.slice a3 n3 c3))) := by show Blk _ _ _ _; rw [hwz]; exact (Blk.new _ _ _).alloc _
  have HB2 : Hid (Blk wz (w.heap.size + 1) 24 (p.cells (.slice a4 n1 c4) (.slice a5 n2 c5) (.slice a6 n3 c6))) := by
    show Blk _ _ _ _
    have h := Blk.new (w.alloc (.cells (p.cells (.slice a1 n1 c1) (.slice a2 n2 c2) (.slice a3 n3 c3)) 24)) 24 (p.cells (.slice a4 n1 c4) (.slice a5 n2 c5) (.slice a6 n3 c6))
    have hs : (w.alloc (.cells (p.cells (.slice a1 n1 c1) (.slice a2 n2 c2) (.slice a3 n3 c3)) 24)).heap.size = w.heap.size + 1 := by simp
    rw [hs] at h
    rw [hwz]
    exact h
  have HU0 : Hid (Upd [] w wz) := by show Upd _ _ _; rw [hwz]; exact ((Upd.refl _ _).alloc _).alloc _
  simp only [Px.cells] at hwz
  have HWZ := Lib.hid hwz
  clear hf ht hr hf' ht' hr' hwz
  obtain ⟨⟨x0, x1, x2, x3⟩, x4, x5, x6, x7⟩ := Px.cells_at HB1.out
  obtain ⟨⟨y0, y1, y2, y3⟩, y4, y5, y6, y7⟩ := Px.cells_at HB2.out
  go_enter Tryz.func15, Tryz.ntmps15
  simp only [Px.val]
  go_wp2_with fail
  rw [← HWZ.out]
  refine (same_any p.first p.first _ _ _ (HH.out.1.upd HU0.out) (HH.out.2.2.2.1.upd HU0.out)).mono ?_
  rintro e w1 ⟨rfl, hu1⟩
  rw [decide_eq_true rfl]
  clear x0 x1 x2 x3 x4 x5 x6 x7 y0 y1 y2 y3 y4 y5 y6 y7
  obtain ⟨⟨x0, x1, x2, x3⟩, x4, x5, x6, x7⟩ := Px.cells_at (HB1.out.upd hu1 (by simp))
  obtain ⟨⟨y0, y1, y2, y3⟩, y4, y5, y6, y7⟩ := Px.cells_at (HB2.out.upd hu1 (by simp))
  have HU1 := Lib.hid hu1
  clear hu1
  go_wp2_with fail
  refine (same_any p.tx p.tx _ _ _ (HH.out.2.1.upd (HU0.out.trans HU1.out)) (HH.out.2.2.2.2.1.upd (HU0.out.trans HU1.out))).mono ?_
  rintro e w2 ⟨rfl, hu2⟩
  rw [decide_eq_true rfl]
  have HU2 := Lib.hid (HU1.out.trans hu2)
  clear x0 x1 x2 x3 x4 x5 x6 x7 y0 y1 y2 y3 y4 y5 y6 y7 hu2
  obtain ⟨⟨x0, x1, x2, x3⟩, x4, x5, x6, x7⟩ := Px.cells_at (HB1.out.upd HU2.out (by simp))
  obtain ⟨⟨y0, y1, y2, y3⟩, y4, y5, y6, y7⟩ := Px.cells_at (HB2.out.upd HU2.out (by simp))
  go_wp2_with fail
  refine (same_any p.rx p.rx _ _ _ (HH.out.2.2.1.upd (HU0.out.trans HU2.out)) (HH.out.2.2.2.2.2.upd (HU0.out.trans HU2.out))).mono ?_
  rintro e w3 ⟨rfl, hu3⟩
  rw [decide_eq_true rfl]
  have HU3 := Lib.hid (HU2.out.trans hu3)
  clear x0 x1 x2 x3 x4 x5 x6 x7 y0 y1 y2 y3 y4 y5 y6 y7 hu3
  obtain ⟨⟨x0, x1, x2, x3⟩, x4, x5, x6, x7⟩ := Px.cells_at (HB1.out.upd HU3.out (by simp))
  obtain ⟨⟨y0, y1, y2, y3⟩, y4, y5, y6, y7⟩ := Px.cells_at (HB2.out.upd HU3.out (by simp))
  go_wp2_with fail
  go_ret
  exact ⟨rfl, HU0.out.trans HU3.out⟩
end Go.Proofs.YtljiichcmljbgaaGreat
