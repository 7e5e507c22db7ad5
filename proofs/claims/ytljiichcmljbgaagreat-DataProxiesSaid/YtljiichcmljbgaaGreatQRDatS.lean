/- WRITTEN by wip/gen/rdats.py. data.Same and the document's SameProxy at any two proxies. -/
import Derived.Test.YtljiichcmljbgaaGreatQRDatA
namespace Go.Proofs.YtljiichcmljbgaaGreat
open Go.RowKit
set_option linter.unusedSimpArgs false
set_option linter.unusedVariables false
set_option maxRecDepth 100000

def pxSame (p q : Px) : Bool := decide (p.first = q.first) && (decide (p.tx = q.tx) && (decide (p.rx = q.rx) && ((p.kind == q.kind) && ((p.id == q.id) && ((p.name.toList == q.name.toList) && ((p.value.toList == q.value.toList) && (p.reply.toList == q.reply.toList)))))))
theorem pxSame_refl (p : Px) : pxSame p p = true := by simp [pxSame]
theorem px8 {w : World} {p : Nat} {ty : TypeId} {a b c d e f g h : Value} (hb : Blk w p ty #[a, b, c, d, e, f, g, h]) :
    w.cell? ⟨p, 0, none⟩ = some a ∧ w.cell? ⟨p, 1, none⟩ = some b ∧ w.cell? ⟨p, 2, none⟩ = some c ∧ w.cell? ⟨p, 3, none⟩ = some d ∧
    w.cell? ⟨p, 4, none⟩ = some e ∧ w.cell? ⟨p, 5, none⟩ = some f ∧ w.cell? ⟨p, 6, none⟩ = some g ∧ w.cell? ⟨p, 7, none⟩ = some h :=
  ⟨hb.cell 0, hb.cell 1, hb.cell 2, hb.cell 3, hb.cell 4, hb.cell 5, hb.cell 6, hb.cell 7⟩
set_option maxHeartbeats 4000000 in
theorem dsame2_any (p q : Px) (f t r f' t' r' : Value) (w : World) (hf : TgsAt w f p.first) (ht : TgsAt w t p.tx) (hr : TgsAt w r p.rx) (hf' : TgsAt w f' q.first) (ht' : TgsAt w t' q.tx) (hr' : TgsAt w r' q.rx) :
    Calls Tryz.prog 15 #[p.val f t r, q.val f' t' r'] w fun e w' => e = .returned (.bool (pxSame p q)) ∧ Upd [] w w' := by
  obtain ⟨u1, hu1⟩ : ∃ u, u = decide (p.first = q.first) := ⟨_, rfl⟩
  obtain ⟨u2, hu2⟩ : ∃ u, u = decide (p.tx = q.tx) := ⟨_, rfl⟩
  obtain ⟨u3, hu3⟩ : ∃ u, u = decide (p.rx = q.rx) := ⟨_, rfl⟩
  have H1 : Hid (∀ W, Upd [] w W → Calls Tryz.prog 37 #[f, f'] W fun e w' => e = .returned (.bool u1) ∧ Upd [] W w') := fun W hu => by rw [hu1]; exact same_any _ _ _ _ _ (hf.upd hu) (hf'.upd hu)
  have H2 : Hid (∀ W, Upd [] w W → Calls Tryz.prog 37 #[t, t'] W fun e w' => e = .returned (.bool u2) ∧ Upd [] W w') := fun W hu => by rw [hu2]; exact same_any _ _ _ _ _ (ht.upd hu) (ht'.upd hu)
  have H3 : Hid (∀ W, Upd [] w W → Calls Tryz.prog 37 #[r, r'] W fun e w' => e = .returned (.bool u3) ∧ Upd [] W w') := fun W hu => by rw [hu3]; exact same_any _ _ _ _ _ (hr.upd hu) (hr'.upd hu)
  obtain ⟨pf, pt, pr, pk, pi, pn, pv, py⟩ := p
  obtain ⟨qf, qt, qr, qk, qi, qn, qv, qy⟩ := q
  have HS : Hid (pxSame ⟨pf, pt, pr, pk, pi, pn, pv, py⟩ ⟨qf, qt, qr, qk, qi, qn, qv, qy⟩ = (u1 && (u2 && (u3 && ((pk == qk) && ((pi == qi) && ((pn.toList == qn.toList) && ((pv.toList == qv.toList) && (py.toList == qy.toList))))))))) := by
    show _ = _
    unfold pxSame
    rw [hu1, hu2, hu3]
  obtain ⟨s, hs⟩ : ∃ s, s = pxSame ⟨pf, pt, pr, pk, pi, pn, pv, py⟩ ⟨qf, qt, qr, qk, qi, qn, qv, qy⟩ := ⟨_, rfl⟩
  rw [← hs] at HS ⊢
  obtain ⟨a1, c1, rfl⟩ := hf.slice
  obtain ⟨a2, c2, rfl⟩ := ht.slice
  obtain ⟨a3, c3, rfl⟩ := hr.slice
  obtain ⟨a4, c4, rfl⟩ := hf'.slice
  obtain ⟨a5, c5, rfl⟩ := ht'.slice
  obtain ⟨a6, c6, rfl⟩ := hr'.slice
  simp only at *
  clear hu1 hu2 hu3 hs hf ht hr hf' ht' hr'
  generalize pf.length = n1 at *
  generalize pt.length = n2 at *
  generalize pr.length = n3 at *
  generalize qf.length = m1 at *
  generalize qt.length = m2 at *
  generalize qr.length = m3 at *
  obtain ⟨wz, hwz⟩ : ∃ wz, wz = (w.alloc (.cells #[.slice a1 n1 c1, .slice a2 n2 c2, .slice a3 n3 c3, .int .i64 pk, .int .i64 pi, .string pn, .string pv, .string py] 24)).alloc (.cells #[.slice a4 m1 c4, .slice a5 m2 c5, .slice a6 m3 c6, .int .i64 qk, .int .i64 qi, .string qn, .string qv, .string qy] 24) := ⟨_, rfl⟩
  have HB1 : Hid (Blk wz w.heap.size 24 #[.slice a1 n1 c1, .slice a2 n2 c2, .slice a3 n3 c3, .int .i64 pk, .int .i64 pi, .string pn, .string pv, .string py]) := by show Blk _ _ _ _; rw [hwz]; exact (Blk.new _ _ _).alloc _
  have HB2 : Hid (Blk wz (w.heap.size + 1) 24 #[.slice a4 m1 c4, .slice a5 m2 c5, .slice a6 m3 c6, .int .i64 qk, .int .i64 qi, .string qn, .string qv, .string qy]) := by
    show Blk _ _ _ _
    have h := Blk.new (w.alloc (.cells #[.slice a1 n1 c1, .slice a2 n2 c2, .slice a3 n3 c3, .int .i64 pk, .int .i64 pi, .string pn, .string pv, .string py] 24)) 24 #[.slice a4 m1 c4, .slice a5 m2 c5, .slice a6 m3 c6, .int .i64 qk, .int .i64 qi, .string qn, .string qv, .string qy]
    rw [show (w.alloc (.cells #[.slice a1 n1 c1, .slice a2 n2 c2, .slice a3 n3 c3, .int .i64 pk, .int .i64 pi, .string pn, .string pv, .string py] 24)).heap.size = w.heap.size + 1 by simp] at h
    rw [hwz]
    exact h
  have HU0 : Hid (Upd [] w wz) := by show Upd _ _ _; rw [hwz]; exact ((Upd.refl _ _).alloc _).alloc _
  have HWZ := Lib.hid hwz
  clear hwz
  go_enter Tryz.func15, Tryz.ntmps15
  simp only [Px.val]
  go_wp2_with fail
  rw [← HWZ.out]
  refine (H1.out _ HU0.out).mono ?_
  rintro e w1 ⟨rfl, hu1⟩
  have HU1 := Lib.hid (HU0.out.trans hu1)
  have HUF := Lib.hid hu1
  clear hu1
  cases u1
  · go_wp2_with fail
    go_ret
    exact ⟨by rw [HS.out]; rfl, HU1.out⟩
  obtain ⟨x0, x1, x2, x3, x4, x5, x6, x7⟩ := px8 (HB1.out.upd HUF.out (by simp))
  obtain ⟨y0, y1, y2, y3, y4, y5, y6, y7⟩ := px8 (HB2.out.upd HUF.out (by simp))
  go_wp2_with fail
  refine (H2.out _ HU1.out).mono ?_
  rintro e w2 ⟨rfl, hu2⟩
  have HU2 := Lib.hid (HU1.out.trans hu2)
  have HUF := Lib.hid (HUF.out.trans hu2)
  clear hu2
  cases u2
  · go_wp2_with fail
    go_ret
    exact ⟨by rw [HS.out]; rfl, HU2.out⟩
  clear x0 x1 x2 x3 x4 x5 x6 x7 y0 y1 y2 y3 y4 y5 y6 y7
  obtain ⟨x0, x1, x2, x3, x4, x5, x6, x7⟩ := px8 (HB1.out.upd HUF.out (by simp))
  obtain ⟨y0, y1, y2, y3, y4, y5, y6, y7⟩ := px8 (HB2.out.upd HUF.out (by simp))
  go_wp2_with fail
  refine (H3.out _ HU2.out).mono ?_
  rintro e w3 ⟨rfl, hu3⟩
  have HU3 := Lib.hid (HU2.out.trans hu3)
  have HUF := Lib.hid (HUF.out.trans hu3)
  clear hu3
  cases u3
  · go_wp2_with fail
    go_ret
    exact ⟨by rw [HS.out]; rfl, HU3.out⟩
  clear x0 x1 x2 x3 x4 x5 x6 x7 y0 y1 y2 y3 y4 y5 y6 y7
  obtain ⟨x0, x1, x2, x3, x4, x5, x6, x7⟩ := px8 (HB1.out.upd HUF.out (by simp))
  obtain ⟨y0, y1, y2, y3, y4, y5, y6, y7⟩ := px8 (HB2.out.upd HUF.out (by simp))
  cases k0 : (pk == qk)
  · have HS2 := HS.out
    rw [k0] at HS2
    have HS3 := Lib.hid HS2
    clear HS2 HS
    go_wp2_with fail
    go_ret
    exact ⟨by rw [HS3.out]; first | rfl | (simp; done), HU3.out⟩
  have HS := Lib.hid (by have h := HS.out; rw [k0] at h; exact h)
  cases k1 : (pi == qi)
  · have HS2 := HS.out
    rw [k1] at HS2
    have HS3 := Lib.hid HS2
    clear HS2 HS
    go_wp2_with fail
    go_ret
    exact ⟨by rw [HS3.out]; first | rfl | (simp; done), HU3.out⟩
  have HS := Lib.hid (by have h := HS.out; rw [k1] at h; exact h)
  cases k2 : (pn.toList == qn.toList)
  · have HS2 := HS.out
    rw [k2] at HS2
    have HS3 := Lib.hid HS2
    clear HS2 HS
    go_wp2_with fail
    go_ret
    exact ⟨by rw [HS3.out]; first | rfl | (simp; done), HU3.out⟩
  have HS := Lib.hid (by have h := HS.out; rw [k2] at h; exact h)
  cases k3 : (pv.toList == qv.toList)
  · have HS2 := HS.out
    rw [k3] at HS2
    have HS3 := Lib.hid HS2
    clear HS2 HS
    go_wp2_with fail
    go_ret
    exact ⟨by rw [HS3.out]; first | rfl | (simp; done), HU3.out⟩
  have HS := Lib.hid (by have h := HS.out; rw [k3] at h; exact h)
  cases k4 : (py.toList == qy.toList)
  · have HS2 := HS.out
    rw [k4] at HS2
    have HS3 := Lib.hid HS2
    clear HS2 HS
    go_wp2_with fail
    go_ret
    exact ⟨by rw [HS3.out]; first | rfl | (simp; done), HU3.out⟩
  have HS := Lib.hid (by have h := HS.out; rw [k4] at h; exact h)
  go_wp2_with fail
  go_ret
  exact ⟨by rw [HS.out]; first | rfl | (simp; done), HU3.out⟩
set_option maxHeartbeats 4000000 in
theorem rsameP_any (p q : Px) (f t r f' t' r' : Value) (w : World) (hf : TgsAt w f p.first) (ht : TgsAt w t p.tx) (hr : TgsAt w r p.rx) (hf' : TgsAt w f' q.first) (ht' : TgsAt w t' q.tx) (hr' : TgsAt w r' q.rx) :
    Calls Tryz.prog 14 #[p.val f t r, q.val f' t' r'] w fun e w' => e = .returned (.bool (pxSame p q)) ∧ Upd [] w w' := by
  obtain ⟨u1, hu1⟩ : ∃ u, u = decide (p.first = q.first) := ⟨_, rfl⟩
  obtain ⟨u2, hu2⟩ : ∃ u, u = decide (p.tx = q.tx) := ⟨_, rfl⟩
  obtain ⟨u3, hu3⟩ : ∃ u, u = decide (p.rx = q.rx) := ⟨_, rfl⟩
  have H1 : Hid (∀ W, Upd [] w W → Calls Tryz.prog 36 #[f, f'] W fun e w' => e = .returned (.bool u1) ∧ Upd [] W w') := fun W hu => by rw [hu1]; exact rsameO_any _ _ _ _ _ (hf.upd hu) (hf'.upd hu)
  have H2 : Hid (∀ W, Upd [] w W → Calls Tryz.prog 36 #[t, t'] W fun e w' => e = .returned (.bool u2) ∧ Upd [] W w') := fun W hu => by rw [hu2]; exact rsameO_any _ _ _ _ _ (ht.upd hu) (ht'.upd hu)
  have H3 : Hid (∀ W, Upd [] w W → Calls Tryz.prog 36 #[r, r'] W fun e w' => e = .returned (.bool u3) ∧ Upd [] W w') := fun W hu => by rw [hu3]; exact rsameO_any _ _ _ _ _ (hr.upd hu) (hr'.upd hu)
  obtain ⟨pf, pt, pr, pk, pi, pn, pv, py⟩ := p
  obtain ⟨qf, qt, qr, qk, qi, qn, qv, qy⟩ := q
  have HS : Hid (pxSame ⟨pf, pt, pr, pk, pi, pn, pv, py⟩ ⟨qf, qt, qr, qk, qi, qn, qv, qy⟩ = (u1 && (u2 && (u3 && ((pk == qk) && ((pi == qi) && ((pn.toList == qn.toList) && ((pv.toList == qv.toList) && (py.toList == qy.toList))))))))) := by
    show _ = _
    unfold pxSame
    rw [hu1, hu2, hu3]
  obtain ⟨s, hs⟩ : ∃ s, s = pxSame ⟨pf, pt, pr, pk, pi, pn, pv, py⟩ ⟨qf, qt, qr, qk, qi, qn, qv, qy⟩ := ⟨_, rfl⟩
  rw [← hs] at HS ⊢
  obtain ⟨a1, c1, rfl⟩ := hf.slice
  obtain ⟨a2, c2, rfl⟩ := ht.slice
  obtain ⟨a3, c3, rfl⟩ := hr.slice
  obtain ⟨a4, c4, rfl⟩ := hf'.slice
  obtain ⟨a5, c5, rfl⟩ := ht'.slice
  obtain ⟨a6, c6, rfl⟩ := hr'.slice
  simp only at *
  clear hu1 hu2 hu3 hs hf ht hr hf' ht' hr'
  generalize pf.length = n1 at *
  generalize pt.length = n2 at *
  generalize pr.length = n3 at *
  generalize qf.length = m1 at *
  generalize qt.length = m2 at *
  generalize qr.length = m3 at *
  obtain ⟨wz, hwz⟩ : ∃ wz, wz = (w.alloc (.cells #[.slice a1 n1 c1, .slice a2 n2 c2, .slice a3 n3 c3, .int .i64 pk, .int .i64 pi, .string pn, .string pv, .string py] 50)).alloc (.cells #[.slice a4 m1 c4, .slice a5 m2 c5, .slice a6 m3 c6, .int .i64 qk, .int .i64 qi, .string qn, .string qv, .string qy] 50) := ⟨_, rfl⟩
  have HB1 : Hid (Blk wz w.heap.size 50 #[.slice a1 n1 c1, .slice a2 n2 c2, .slice a3 n3 c3, .int .i64 pk, .int .i64 pi, .string pn, .string pv, .string py]) := by show Blk _ _ _ _; rw [hwz]; exact (Blk.new _ _ _).alloc _
  have HB2 : Hid (Blk wz (w.heap.size + 1) 50 #[.slice a4 m1 c4, .slice a5 m2 c5, .slice a6 m3 c6, .int .i64 qk, .int .i64 qi, .string qn, .string qv, .string qy]) := by
    show Blk _ _ _ _
    have h := Blk.new (w.alloc (.cells #[.slice a1 n1 c1, .slice a2 n2 c2, .slice a3 n3 c3, .int .i64 pk, .int .i64 pi, .string pn, .string pv, .string py] 50)) 50 #[.slice a4 m1 c4, .slice a5 m2 c5, .slice a6 m3 c6, .int .i64 qk, .int .i64 qi, .string qn, .string qv, .string qy]
    rw [show (w.alloc (.cells #[.slice a1 n1 c1, .slice a2 n2 c2, .slice a3 n3 c3, .int .i64 pk, .int .i64 pi, .string pn, .string pv, .string py] 50)).heap.size = w.heap.size + 1 by simp] at h
    rw [hwz]
    exact h
  have HU0 : Hid (Upd [] w wz) := by show Upd _ _ _; rw [hwz]; exact ((Upd.refl _ _).alloc _).alloc _
  have HWZ := Lib.hid hwz
  clear hwz
  go_enter Tryz.func14, Tryz.ntmps14
  simp only [Px.val]
  go_wp2_with fail
  rw [← HWZ.out]
  refine (H1.out _ HU0.out).mono ?_
  rintro e w1 ⟨rfl, hu1⟩
  have HU1 := Lib.hid (HU0.out.trans hu1)
  have HUF := Lib.hid hu1
  clear hu1
  cases u1
  · go_wp2_with fail
    go_ret
    exact ⟨by rw [HS.out]; rfl, HU1.out⟩
  obtain ⟨x0, x1, x2, x3, x4, x5, x6, x7⟩ := px8 (HB1.out.upd HUF.out (by simp))
  obtain ⟨y0, y1, y2, y3, y4, y5, y6, y7⟩ := px8 (HB2.out.upd HUF.out (by simp))
  go_wp2_with fail
  refine (H2.out _ HU1.out).mono ?_
  rintro e w2 ⟨rfl, hu2⟩
  have HU2 := Lib.hid (HU1.out.trans hu2)
  have HUF := Lib.hid (HUF.out.trans hu2)
  clear hu2
  cases u2
  · go_wp2_with fail
    go_ret
    exact ⟨by rw [HS.out]; rfl, HU2.out⟩
  clear x0 x1 x2 x3 x4 x5 x6 x7 y0 y1 y2 y3 y4 y5 y6 y7
  obtain ⟨x0, x1, x2, x3, x4, x5, x6, x7⟩ := px8 (HB1.out.upd HUF.out (by simp))
  obtain ⟨y0, y1, y2, y3, y4, y5, y6, y7⟩ := px8 (HB2.out.upd HUF.out (by simp))
  go_wp2_with fail
  refine (H3.out _ HU2.out).mono ?_
  rintro e w3 ⟨rfl, hu3⟩
  have HU3 := Lib.hid (HU2.out.trans hu3)
  have HUF := Lib.hid (HUF.out.trans hu3)
  clear hu3
  cases u3
  · go_wp2_with fail
    go_ret
    exact ⟨by rw [HS.out]; rfl, HU3.out⟩
  clear x0 x1 x2 x3 x4 x5 x6 x7 y0 y1 y2 y3 y4 y5 y6 y7
  obtain ⟨x0, x1, x2, x3, x4, x5, x6, x7⟩ := px8 (HB1.out.upd HUF.out (by simp))
  obtain ⟨y0, y1, y2, y3, y4, y5, y6, y7⟩ := px8 (HB2.out.upd HUF.out (by simp))
  cases k0 : (pk == qk)
  · have HS2 := HS.out
    rw [k0] at HS2
    have HS3 := Lib.hid HS2
    clear HS2 HS
    go_wp2_with fail
    go_ret
    exact ⟨by rw [HS3.out]; first | rfl | (simp; done), HU3.out⟩
  have HS := Lib.hid (by have h := HS.out; rw [k0] at h; exact h)
  cases k1 : (pi == qi)
  · have HS2 := HS.out
    rw [k1] at HS2
    have HS3 := Lib.hid HS2
    clear HS2 HS
    go_wp2_with fail
    go_ret
    exact ⟨by rw [HS3.out]; first | rfl | (simp; done), HU3.out⟩
  have HS := Lib.hid (by have h := HS.out; rw [k1] at h; exact h)
  cases k2 : (pn.toList == qn.toList)
  · have HS2 := HS.out
    rw [k2] at HS2
    have HS3 := Lib.hid HS2
    clear HS2 HS
    go_wp2_with fail
    go_ret
    exact ⟨by rw [HS3.out]; first | rfl | (simp; done), HU3.out⟩
  have HS := Lib.hid (by have h := HS.out; rw [k2] at h; exact h)
  cases k3 : (pv.toList == qv.toList)
  · have HS2 := HS.out
    rw [k3] at HS2
    have HS3 := Lib.hid HS2
    clear HS2 HS
    go_wp2_with fail
    go_ret
    exact ⟨by rw [HS3.out]; first | rfl | (simp; done), HU3.out⟩
  have HS := Lib.hid (by have h := HS.out; rw [k3] at h; exact h)
  cases k4 : (py.toList == qy.toList)
  · have HS2 := HS.out
    rw [k4] at HS2
    have HS3 := Lib.hid HS2
    clear HS2 HS
    go_wp2_with fail
    go_ret
    exact ⟨by rw [HS3.out]; first | rfl | (simp; done), HU3.out⟩
  have HS := Lib.hid (by have h := HS.out; rw [k4] at h; exact h)
  go_wp2_with fail
  go_ret
  exact ⟨by rw [HS.out]; first | rfl | (simp; done), HU3.out⟩
end Go.Proofs.YtljiichcmljbgaaGreat
