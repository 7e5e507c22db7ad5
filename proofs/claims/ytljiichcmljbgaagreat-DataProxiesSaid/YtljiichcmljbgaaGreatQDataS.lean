/- The walk of a reader's auth. -/
import Derived.Test.YtljiichcmljbgaaGreatQDataR
namespace Go.Proofs.YtljiichcmljbgaaGreat
open Go.RowKit
set_option linter.unusedSimpArgs false
set_option linter.unusedVariables false
set_option maxRecDepth 100000

theorem RdrAt.far {w0 w : World} {b g : Nat} {vl : Value} {l : List Av} {ok : Bool} (h : RdrAt w0 w b g vl l ok) (p i : Nat) (v : Value) (hb : p ≠ b) (hg : p ≠ g) (hl : w0.heap.size ≤ p) : RdrAt w0 (w.setCell ⟨p, i, none⟩ v) b g vl l ok :=
  ⟨h.blk.far v (fun e => hb e.symm), h.ne, h.low, h.cnt.upd ((Upd.refl [p] w).setCell _ (by simp)) (by simp; exact fun e => hg e.symm), h.avs, h.upd.setCell _ (.inr hl)⟩
theorem RdrAt.lts {w0 w : World} {b g : Nat} {vl : Value} {l : List Av} {ok : Bool} (h : RdrAt w0 w b g vl l ok) : b < w.heap.size ∧ g < w.heap.size ∧ w0.heap.size ≤ w.heap.size := ⟨h.blk.lt, h.cnt.lt, h.upd.size⟩
theorem Px.cells_at {w : World} {p : Nat} {x : Px} {f t r : Value} (h : Blk w p 24 (x.cells f t r)) :
    (w.cell? ⟨p, 0, none⟩ = some f ∧ w.cell? ⟨p, 1, none⟩ = some t ∧ w.cell? ⟨p, 2, none⟩ = some r ∧ w.cell? ⟨p, 3, none⟩ = some (.int .i64 x.kind)) ∧
    (w.cell? ⟨p, 4, none⟩ = some (.int .i64 x.id) ∧ w.cell? ⟨p, 5, none⟩ = some (.string x.name) ∧ w.cell? ⟨p, 6, none⟩ = some (.string x.value) ∧ w.cell? ⟨p, 7, none⟩ = some (.string x.reply)) :=
  ⟨⟨h.cell 0, h.cell 1, h.cell 2, h.cell 3⟩, h.cell 4, h.cell 5, h.cell 6, h.cell 7⟩
theorem Blk.froz {w : World} {p : Nat} {t : TypeId} {cs : Array Value} (h : Blk w p t cs) : w.frozen? ⟨p, 0, none⟩ = false ∧ w.frozen? ⟨p, 1, none⟩ = false ∧ w.frozen? ⟨p, 2, none⟩ = false ∧ w.frozen? ⟨p, 3, none⟩ = false ∧ w.frozen? ⟨p, 4, none⟩ = false ∧ w.frozen? ⟨p, 5, none⟩ = false ∧ w.frozen? ⟨p, 6, none⟩ = false ∧ w.frozen? ⟨p, 7, none⟩ = false :=
  ⟨h.frozen 0, h.frozen 1, h.frozen 2, h.frozen 3, h.frozen 4, h.frozen 5, h.frozen 6, h.frozen 7⟩

def setPx (w : World) (p : Nat) (x : Px) (f t r : Value) : World :=
  (((((((w.setCell ⟨p, 0, none⟩ f).setCell ⟨p, 1, none⟩ t).setCell ⟨p, 2, none⟩ r).setCell ⟨p, 3, none⟩ (.int .i64 x.kind)).setCell ⟨p, 4, none⟩ (.int .i64 x.id)).setCell ⟨p, 5, none⟩ (.string x.name)).setCell ⟨p, 6, none⟩ (.string x.value)).setCell ⟨p, 7, none⟩ (.string x.reply)
theorem setPx_blk {w : World} {p : Nat} {y : Px} {f' t' r' : Value} (h : Blk w p 24 (y.cells f' t' r')) (x : Px) (f t r : Value) : Blk (setPx w p x f t r) p 24 (x.cells f t r) :=
  Blk.of_eq ((((((((h.set_ 0 f).set_ 1 t).set_ 2 r).set_ 3 (.int .i64 x.kind)).set_ 4 (.int .i64 x.id)).set_ 5 (.string x.name)).set_ 6 (.string x.value)).set_ 7 (.string x.reply)) (by simp [Px.cells])
theorem setPx_upd {F : List Nat} {a w : World} {p : Nat} (h : Upd F a w) (hp : p ∈ F ∨ a.heap.size ≤ p) (x : Px) (f t r : Value) : Upd F a (setPx w p x f t r) :=
  (((((((h.setCell _ hp).setCell _ hp).setCell _ hp).setCell _ hp).setCell _ hp).setCell _ hp).setCell _ hp).setCell _ hp
theorem setPx_rdr {w0 w : World} {b g : Nat} {vl : Value} {l : List Av} {ok : Bool} (h : RdrAt w0 w b g vl l ok) (p : Nat) (hb : p ≠ b) (hg : p ≠ g) (hl : w0.heap.size ≤ p) (x : Px) (f t r : Value) : RdrAt w0 (setPx w p x f t r) b g vl l ok :=
  (((((((h.far p _ _ hb hg hl).far p _ _ hb hg hl).far p _ _ hb hg hl).far p _ _ hb hg hl).far p _ _ hb hg hl).far p _ _ hb hg hl).far p _ _ hb hg hl).far p _ _ hb hg hl
def pxNil : Px := ⟨[], [], [], 0, 0, ⟨#[]⟩, ⟨#[]⟩, ⟨#[]⟩⟩
set_option maxHeartbeats 1000000 in
theorem auth_rd {w0 w : World} {b g : Nat} {vl : Value} {l : List Av} (h : RdrAt w0 w b g vl l true) (hs : ∀ t ∈ l, t.val.size ≤ 140737488355328) :
    Calls Tryz.prog 31 #[.pointer (some ⟨b, 0, none⟩)] w fun e w' => e = .returned ((claimed l).1.val (.slice none 0 0) (.slice none 0 0) (.slice none 0 0)) ∧ RdrAt w0 w' b g vl l (claimed l).2 ∧ Upd [b] w w' := by
  have HS := Lib.hid hs
  have H := Lib.hid h
  have hlts := h.lts
  have B2 : Hid (Blk (w.alloc (.cells (pxNil.cells (.slice none 0 0) (.slice none 0 0) (.slice none 0 0)) 24)) w.heap.size 24 (pxNil.cells (.slice none 0 0) (.slice none 0 0) (.slice none 0 0))) := Blk.new _ _ _
  have U2 : Hid (Upd [] w (w.alloc (.cells (pxNil.cells (.slice none 0 0) (.slice none 0 0) (.slice none 0 0)) 24))) := (Upd.refl _ _).alloc _
  have H2 := Lib.hid (h.more U2.out)
  obtain ⟨y, hy⟩ : ∃ y, y = nrAv l 29 := ⟨_, rfl⟩
  clear h hs
  by_cases t1 : y = 2
  · have hq : claimed l = ({ Px.zero with kind := 2, name := txtAv l 30, reply := txtAv l 33, id := nrAv l 32, value := txtAv l 31 }, ((((nrOk l 29 2 4 && oneAv l 30) && oneAv l 33) && nrOk l 32 0 255) && oneAv l 31) && (!decide ((txtAv l 31).size = 0) && decide ((txtAv l 31).size ≤ 60))) := by rw [claimed, ← hy, t1]; simp
    rw [hq]
    subst t1
    obtain ⟨nm, hnm⟩ : ∃ x, x = txtAv l 30 := ⟨_, rfl⟩
    obtain ⟨rp, hrp⟩ : ∃ x, x = txtAv l 33 := ⟨_, rfl⟩
    obtain ⟨id, hid⟩ : ∃ x, x = nrAv l 32 := ⟨_, rfl⟩
    obtain ⟨vv, hvv⟩ : ∃ x, x = txtAv l 31 := ⟨_, rfl⟩
    rw [← hnm, ← hrp, ← hid, ← hvv]
    have HY := Lib.hid hy
    have HN := Lib.hid hnm
    have HP := Lib.hid hrp
    have HI := Lib.hid hid
    have HV := Lib.hid hvv
    clear hq hy hnm hrp hid hvv
    go_enter Tryz.func31, Tryz.ntmps31
    go_wp2_with fail
    refine (number_rd 29 2 4 H2.out HS.out).mono ?_
    rintro e w1 ⟨rfl, h1, hu1⟩
    rw [← HY.out]
    have H1 := Lib.hid h1
    have HU1 : Hid (Upd [b] w w1) := U2.out.more.trans hu1
    have hlt1 := h1.lts
    have hsz1 : w.heap.size < w1.heap.size := (B2.out.upd hu1 (by simp; omega)).lt
    have B3 := Lib.hid (B2.out.upd hu1 (by simp; omega))
    clear h1 hu1
    have HA := Lib.hid (H1.out.more ((Upd.refl [] w1).alloc (.cells (({ Px.zero with kind := 2 } : Px).cells (.slice none 0 0) (.slice none 0 0) (.slice none 0 0)) 24)))
    have BA : Hid (Blk (w1.alloc (.cells (({ Px.zero with kind := 2 } : Px).cells (.slice none 0 0) (.slice none 0 0) (.slice none 0 0)) 24)) w1.heap.size 24 (({ Px.zero with kind := 2 } : Px).cells (.slice none 0 0) (.slice none 0 0) (.slice none 0 0))) := Blk.new _ _ _
    have UA : Hid (Upd [b] w (w1.alloc (.cells (({ Px.zero with kind := 2 } : Px).cells (.slice none 0 0) (.slice none 0 0) (.slice none 0 0)) 24))) := HU1.out.alloc _
    have B3A := Lib.hid (B3.out.alloc (.cells (({ Px.zero with kind := 2 } : Px).cells (.slice none 0 0) (.slice none 0 0) (.slice none 0 0)) 24))
    go_wp2_with fail
    refine (text_any 30 HA.out).mono ?_
    rintro e w2 ⟨rfl, h2, hu2⟩
    rw [← HN.out]
    have HR2 := Lib.hid h2
    have BA2 := Lib.hid (BA.out.upd hu2 (by simp; omega))
    have B32 := Lib.hid (B3A.out.upd hu2 (by simp; omega))
    have UA2 := Lib.hid (UA.out.trans hu2)
    clear h2 hu2
    go_wp2_with fail
    refine (text_any 33 HR2.out).mono ?_
    rintro e w3 ⟨rfl, h3, hu3⟩
    rw [← HP.out]
    have HR3 := Lib.hid h3
    have BA3 := Lib.hid (BA2.out.upd hu3 (by simp; omega))
    have B33 := Lib.hid (B32.out.upd hu3 (by simp; omega))
    have UA3 := Lib.hid (UA2.out.trans hu3)
    clear h3 hu3
    go_wp2_with fail
    refine (number_rd 32 0 255 HR3.out HS.out).mono ?_
    rintro e w4 ⟨rfl, h4, hu4⟩
    rw [← HI.out]
    have HR4 := Lib.hid h4
    have BA4 := Lib.hid (BA3.out.upd hu4 (by simp; omega))
    have B34 := Lib.hid (B33.out.upd hu4 (by simp; omega))
    have UA4 := Lib.hid (UA3.out.trans hu4)
    have lA4 := BA4.out.lt
    clear h4 hu4
    obtain ⟨fA0, fA1, fA2, fA3, fA4, fA5, fA6, fA7⟩ := BA4.out.froz
    obtain ⟨⟨cA0, cA1, cA2, cA3⟩, cA4, cA5, cA6, cA7⟩ := Px.cells_at BA4.out
    simp only [Px.zero] at cA3 cA4 cA5 cA6 cA7

    have BS : Hid (Blk (((w4.setCell ⟨w1.heap.size, 5, none⟩ (.string nm)).setCell ⟨w1.heap.size, 7, none⟩ (.string rp)).setCell ⟨w1.heap.size, 4, none⟩ (.int .i64 id)) w1.heap.size 24 (({ Px.zero with kind := 2, name := nm, reply := rp, id := id } : Px).cells (.slice none 0 0) (.slice none 0 0) (.slice none 0 0))) := Blk.of_eq (((BA4.out.set_ 5 (.string nm)).set_ 7 (.string rp)).set_ 4 (.int .i64 id)) (by simp [Px.cells])
    have RS : Hid (RdrAt w0 (((w4.setCell ⟨w1.heap.size, 5, none⟩ (.string nm)).setCell ⟨w1.heap.size, 7, none⟩ (.string rp)).setCell ⟨w1.heap.size, 4, none⟩ (.int .i64 id)) b g vl l (((nrOk l 29 2 4 && oneAv l 30) && oneAv l 33) && nrOk l 32 0 255)) := ((HR4.out.far w1.heap.size 5 _ (by omega) (by omega) (by omega)).far w1.heap.size 7 _ (by omega) (by omega) (by omega)).far w1.heap.size 4 _ (by omega) (by omega) (by omega)
    have US : Hid (Upd [b] w (((w4.setCell ⟨w1.heap.size, 5, none⟩ (.string nm)).setCell ⟨w1.heap.size, 7, none⟩ (.string rp)).setCell ⟨w1.heap.size, 4, none⟩ (.int .i64 id))) := ((UA4.out.setCell _ (.inr (by simp; omega))).setCell _ (.inr (by simp; omega))).setCell _ (.inr (by simp; omega))
    have B3S : Hid (Blk (((w4.setCell ⟨w1.heap.size, 5, none⟩ (.string nm)).setCell ⟨w1.heap.size, 7, none⟩ (.string rp)).setCell ⟨w1.heap.size, 4, none⟩ (.int .i64 id)) w.heap.size 24 (Px.zero.cells (.slice none 0 0) (.slice none 0 0) (.slice none 0 0))) := ((B34.out.far _ (by simp; omega)).far _ (by simp; omega)).far _ (by simp; omega)

    go_wp2_with fail
    refine (text_any 31 RS.out).mono ?_
    rintro e w5 ⟨rfl, h5, hu5⟩
    rw [← HV.out]
    have HR5 := Lib.hid h5
    have BA5 := Lib.hid (BS.out.upd hu5 (by simp; omega))
    have B35 := Lib.hid (B3S.out.upd hu5 (by simp; omega))
    have UA5 := Lib.hid (US.out.trans hu5)
    clear h5 hu5 fA0 fA1 fA2 fA3 fA4 fA5 fA6 fA7 cA0 cA1 cA2 cA3 cA4 cA5 cA6 cA7
    have lA5 := BA5.out.lt
    have l35 := B35.out.lt
    obtain ⟨r0, r1, r2, r3, r4⟩ := HR5.out.reads
    obtain ⟨fA0, fA1, fA2, fA3, fA4, fA5, fA6, fA7⟩ := BA5.out.froz
    obtain ⟨⟨cA0, cA1, cA2, cA3⟩, cA4, cA5, cA6, cA7⟩ := Px.cells_at BA5.out
    simp only [Px.zero] at cA3 cA4 cA5 cA6 cA7
    obtain ⟨f0, f1, f2, f3, f4, f5, f6, f7⟩ := B35.out.froz
    obtain ⟨⟨c0, c1, c2, c3⟩, c4, c5, c6, c7⟩ := Px.cells_at B35.out
    simp only [Px.zero] at c3 c4 c5 c6 c7
    have HBV : Hid (Blk (w5.setCell ⟨w1.heap.size, 6, none⟩ (.string vv)) w1.heap.size 24 (({ Px.zero with kind := 2, name := nm, reply := rp, id := id, value := vv } : Px).cells (.slice none 0 0) (.slice none 0 0) (.slice none 0 0))) := Blk.of_eq (BA5.out.set_ 6 (.string vv)) (by simp [Px.cells])
    have HRV := Lib.hid (HR5.out.far w1.heap.size 6 (.string vv) (by omega) (by omega) (by omega))
    have HUV := Lib.hid (UA5.out.setCell (p := ⟨w1.heap.size, 6, none⟩) (.string vv) (.inr (by simp; omega)))
    have HB3V := Lib.hid (B35.out.far (p := ⟨w1.heap.size, 6, none⟩) (.string vv) (by simp; omega))
    obtain ⟨ok5, hok5⟩ : ∃ x, x = ((((nrOk l 29 2 4 && oneAv l 30) && oneAv l 33) && nrOk l 32 0 255) && oneAv l 31) := ⟨_, rfl⟩
    rw [← hok5] at r2
    have HOK := Lib.hid hok5
    clear hok5
    cases tk : ok5 with
    | false =>
      rw [tk] at r2
      have HTK := Lib.hid tk
      clear tk
      go_wp2_with fail
      clear f0 f1 f2 f3 f4 f5 f6 f7 c0 c1 c2 c3 c4 c5 c6 c7 fA0 fA1 fA2 fA3 fA4 fA5 fA6 fA7 cA0 cA1 cA2 cA3 cA4 cA5 cA6 cA7
      have B4 := setPx_blk (HB3V.out.far (p := ⟨b, 2, none⟩) (.bool false) (by simp; omega)) ({ Px.zero with kind := 2, name := nm, reply := rp, id := id, value := vv } : Px) (.slice none 0 0) (.slice none 0 0) (.slice none 0 0)
      obtain ⟨⟨c0, c1, c2, c3⟩, c4, c5, c6, c7⟩ := Px.cells_at B4
      have R4 := (setPx_rdr (HRV.out.set false) w.heap.size (by omega) (by omega) (by omega) ({ Px.zero with kind := 2, name := nm, reply := rp, id := id, value := vv } : Px) (.slice none 0 0) (.slice none 0 0) (.slice none 0 0)).same (ok' := ((((nrOk l 29 2 4 && oneAv l 30) && oneAv l 33) && nrOk l 32 0 255) && oneAv l 31) && (!decide (vv.size = 0) && decide (vv.size ≤ 60))) (by rw [← HOK.out, HTK.out]; simp)
      have U4 := setPx_upd (HUV.out.setCell (p := ⟨b, 2, none⟩) (.bool false) (.inl (by simp))) (p := w.heap.size) (.inr (Nat.le_refl _)) ({ Px.zero with kind := 2, name := nm, reply := rp, id := id, value := vv } : Px) (.slice none 0 0) (.slice none 0 0) (.slice none 0 0)
      simp only [setPx, Px.zero] at c0 c1 c2 c3 c4 c5 c6 c7 R4 U4
      exact bodyPost_ret (v := ({ Px.zero with kind := 2, name := nm, reply := rp, id := id, value := vv } : Px).val (.slice none 0 0) (.slice none 0 0) (.slice none 0 0)) (by simp [results, Tryz.results31, go_sem, Px.val, Px.zero, c0, c1, c2, c3, c4, c5, c6, c7]) rfl ⟨rfl, R4, U4⟩
    | true =>
      rw [tk] at r2
      have HTK := Lib.hid tk
      clear tk
      by_cases tz : vv.size = 0
      · have e0 := str_empty_t tz
        have HTZ := Lib.hid tz
        clear tz
        go_wp2_with fail
        clear f0 f1 f2 f3 f4 f5 f6 f7 c0 c1 c2 c3 c4 c5 c6 c7 fA0 fA1 fA2 fA3 fA4 fA5 fA6 fA7 cA0 cA1 cA2 cA3 cA4 cA5 cA6 cA7
        have B4 := setPx_blk (HB3V.out.far (p := ⟨b, 2, none⟩) (.bool false) (by simp; omega)) ({ Px.zero with kind := 2, name := nm, reply := rp, id := id, value := vv } : Px) (.slice none 0 0) (.slice none 0 0) (.slice none 0 0)
        obtain ⟨⟨c0, c1, c2, c3⟩, c4, c5, c6, c7⟩ := Px.cells_at B4
        have R4 := (setPx_rdr (HRV.out.set false) w.heap.size (by omega) (by omega) (by omega) ({ Px.zero with kind := 2, name := nm, reply := rp, id := id, value := vv } : Px) (.slice none 0 0) (.slice none 0 0) (.slice none 0 0)).same (ok' := ((((nrOk l 29 2 4 && oneAv l 30) && oneAv l 33) && nrOk l 32 0 255) && oneAv l 31) && (!decide (vv.size = 0) && decide (vv.size ≤ 60))) (by rw [← HOK.out, HTK.out, HTZ.out]; rfl)
        have U4 := setPx_upd (HUV.out.setCell (p := ⟨b, 2, none⟩) (.bool false) (.inl (by simp))) (p := w.heap.size) (.inr (Nat.le_refl _)) ({ Px.zero with kind := 2, name := nm, reply := rp, id := id, value := vv } : Px) (.slice none 0 0) (.slice none 0 0) (.slice none 0 0)
        simp only [setPx, Px.zero] at c0 c1 c2 c3 c4 c5 c6 c7 R4 U4
        exact bodyPost_ret (v := ({ Px.zero with kind := 2, name := nm, reply := rp, id := id, value := vv } : Px).val (.slice none 0 0) (.slice none 0 0) (.slice none 0 0)) (by simp [results, Tryz.results31, go_sem, Px.val, Px.zero, c0, c1, c2, c3, c4, c5, c6, c7]) rfl ⟨rfl, R4, U4⟩
      · have e0 := str_empty_f tz
        have HTZ := Lib.hid tz
        clear tz
        go_wp2_with fail
        clear f0 f1 f2 f3 f4 f5 f6 f7 c0 c1 c2 c3 c4 c5 c6 c7 fA0 fA1 fA2 fA3 fA4 fA5 fA6 fA7 cA0 cA1 cA2 cA3 cA4 cA5 cA6 cA7
        have B4 := setPx_blk (HB3V.out.far (p := ⟨b, 2, none⟩) (.bool (decide ((vv.size : Int) ≤ 60))) (by simp; omega)) ({ Px.zero with kind := 2, name := nm, reply := rp, id := id, value := vv } : Px) (.slice none 0 0) (.slice none 0 0) (.slice none 0 0)
        obtain ⟨⟨c0, c1, c2, c3⟩, c4, c5, c6, c7⟩ := Px.cells_at B4
        have R4 := (setPx_rdr (HRV.out.set (decide ((vv.size : Int) ≤ 60))) w.heap.size (by omega) (by omega) (by omega) ({ Px.zero with kind := 2, name := nm, reply := rp, id := id, value := vv } : Px) (.slice none 0 0) (.slice none 0 0) (.slice none 0 0)).same (ok' := ((((nrOk l 29 2 4 && oneAv l 30) && oneAv l 33) && nrOk l 32 0 255) && oneAv l 31) && (!decide (vv.size = 0) && decide (vv.size ≤ 60))) (by rw [← HOK.out, HTK.out, decide_eq_false HTZ.out]; simp; omega)
        have U4 := setPx_upd (HUV.out.setCell (p := ⟨b, 2, none⟩) (.bool (decide ((vv.size : Int) ≤ 60))) (.inl (by simp))) (p := w.heap.size) (.inr (Nat.le_refl _)) ({ Px.zero with kind := 2, name := nm, reply := rp, id := id, value := vv } : Px) (.slice none 0 0) (.slice none 0 0) (.slice none 0 0)
        simp only [setPx, Px.zero] at c0 c1 c2 c3 c4 c5 c6 c7 R4 U4
        exact bodyPost_ret (v := ({ Px.zero with kind := 2, name := nm, reply := rp, id := id, value := vv } : Px).val (.slice none 0 0) (.slice none 0 0) (.slice none 0 0)) (by simp [results, Tryz.results31, go_sem, Px.val, Px.zero, c0, c1, c2, c3, c4, c5, c6, c7]) rfl ⟨rfl, R4, U4⟩
  · by_cases t2 : y = 3
    · have hq : claimed l = ({ Px.zero with kind := 3, name := txtAv l 30, reply := txtAv l 33, id := nrAv l 32 }, ((nrOk l 29 2 4 && oneAv l 30) && oneAv l 33) && nrOk l 32 0 255) := by rw [claimed, ← hy, t2]; simp
      rw [hq]
      subst t2
      obtain ⟨nm, hnm⟩ : ∃ x, x = txtAv l 30 := ⟨_, rfl⟩
      obtain ⟨rp, hrp⟩ : ∃ x, x = txtAv l 33 := ⟨_, rfl⟩
      obtain ⟨id, hid⟩ : ∃ x, x = nrAv l 32 := ⟨_, rfl⟩
      rw [← hnm, ← hrp, ← hid]
      have HY := Lib.hid hy
      have HN := Lib.hid hnm
      have HP := Lib.hid hrp
      have HI := Lib.hid hid
      clear hq hy t1 hnm hrp hid
      go_enter Tryz.func31, Tryz.ntmps31
      go_wp2_with fail
      refine (number_rd 29 2 4 H2.out HS.out).mono ?_
      rintro e w1 ⟨rfl, h1, hu1⟩
      rw [← HY.out]
      have H1 := Lib.hid h1
      have HU1 : Hid (Upd [b] w w1) := U2.out.more.trans hu1
      have hlt1 := h1.lts
      have hsz1 : w.heap.size < w1.heap.size := (B2.out.upd hu1 (by simp; omega)).lt
      have B3 := Lib.hid (B2.out.upd hu1 (by simp; omega))
      clear h1 hu1
      have HA := Lib.hid (H1.out.more ((Upd.refl [] w1).alloc (.cells (({ Px.zero with kind := 3 } : Px).cells (.slice none 0 0) (.slice none 0 0) (.slice none 0 0)) 24)))
      have BA : Hid (Blk (w1.alloc (.cells (({ Px.zero with kind := 3 } : Px).cells (.slice none 0 0) (.slice none 0 0) (.slice none 0 0)) 24)) w1.heap.size 24 (({ Px.zero with kind := 3 } : Px).cells (.slice none 0 0) (.slice none 0 0) (.slice none 0 0))) := Blk.new _ _ _
      have UA : Hid (Upd [b] w (w1.alloc (.cells (({ Px.zero with kind := 3 } : Px).cells (.slice none 0 0) (.slice none 0 0) (.slice none 0 0)) 24))) := HU1.out.alloc _
      have B3A := Lib.hid (B3.out.alloc (.cells (({ Px.zero with kind := 3 } : Px).cells (.slice none 0 0) (.slice none 0 0) (.slice none 0 0)) 24))
      go_wp2_with fail
      refine (text_any 30 HA.out).mono ?_
      rintro e w2 ⟨rfl, h2, hu2⟩
      rw [← HN.out]
      have HR2 := Lib.hid h2
      have BA2 := Lib.hid (BA.out.upd hu2 (by simp; omega))
      have B32 := Lib.hid (B3A.out.upd hu2 (by simp; omega))
      have UA2 := Lib.hid (UA.out.trans hu2)
      clear h2 hu2
      go_wp2_with fail
      refine (text_any 33 HR2.out).mono ?_
      rintro e w3 ⟨rfl, h3, hu3⟩
      rw [← HP.out]
      have HR3 := Lib.hid h3
      have BA3 := Lib.hid (BA2.out.upd hu3 (by simp; omega))
      have B33 := Lib.hid (B32.out.upd hu3 (by simp; omega))
      have UA3 := Lib.hid (UA2.out.trans hu3)
      clear h3 hu3
      go_wp2_with fail
      refine (number_rd 32 0 255 HR3.out HS.out).mono ?_
      rintro e w4 ⟨rfl, h4, hu4⟩
      rw [← HI.out]
      have HR4 := Lib.hid h4
      have BA4 := Lib.hid (BA3.out.upd hu4 (by simp; omega))
      have B34 := Lib.hid (B33.out.upd hu4 (by simp; omega))
      have UA4 := Lib.hid (UA3.out.trans hu4)
      have lA4 := BA4.out.lt
      clear h4 hu4
      obtain ⟨fA0, fA1, fA2, fA3, fA4, fA5, fA6, fA7⟩ := BA4.out.froz
      obtain ⟨⟨cA0, cA1, cA2, cA3⟩, cA4, cA5, cA6, cA7⟩ := Px.cells_at BA4.out
      simp only [Px.zero] at cA3 cA4 cA5 cA6 cA7

      have BS : Hid (Blk (((w4.setCell ⟨w1.heap.size, 5, none⟩ (.string nm)).setCell ⟨w1.heap.size, 7, none⟩ (.string rp)).setCell ⟨w1.heap.size, 4, none⟩ (.int .i64 id)) w1.heap.size 24 (({ Px.zero with kind := 3, name := nm, reply := rp, id := id } : Px).cells (.slice none 0 0) (.slice none 0 0) (.slice none 0 0))) := Blk.of_eq (((BA4.out.set_ 5 (.string nm)).set_ 7 (.string rp)).set_ 4 (.int .i64 id)) (by simp [Px.cells])
      have RS : Hid (RdrAt w0 (((w4.setCell ⟨w1.heap.size, 5, none⟩ (.string nm)).setCell ⟨w1.heap.size, 7, none⟩ (.string rp)).setCell ⟨w1.heap.size, 4, none⟩ (.int .i64 id)) b g vl l (((nrOk l 29 2 4 && oneAv l 30) && oneAv l 33) && nrOk l 32 0 255)) := ((HR4.out.far w1.heap.size 5 _ (by omega) (by omega) (by omega)).far w1.heap.size 7 _ (by omega) (by omega) (by omega)).far w1.heap.size 4 _ (by omega) (by omega) (by omega)
      have US : Hid (Upd [b] w (((w4.setCell ⟨w1.heap.size, 5, none⟩ (.string nm)).setCell ⟨w1.heap.size, 7, none⟩ (.string rp)).setCell ⟨w1.heap.size, 4, none⟩ (.int .i64 id))) := ((UA4.out.setCell _ (.inr (by simp; omega))).setCell _ (.inr (by simp; omega))).setCell _ (.inr (by simp; omega))
      have B3S : Hid (Blk (((w4.setCell ⟨w1.heap.size, 5, none⟩ (.string nm)).setCell ⟨w1.heap.size, 7, none⟩ (.string rp)).setCell ⟨w1.heap.size, 4, none⟩ (.int .i64 id)) w.heap.size 24 (Px.zero.cells (.slice none 0 0) (.slice none 0 0) (.slice none 0 0))) := ((B34.out.far _ (by simp; omega)).far _ (by simp; omega)).far _ (by simp; omega)

      obtain ⟨f0, f1, f2, f3, f4, f5, f6, f7⟩ := B34.out.froz
      obtain ⟨⟨c0, c1, c2, c3⟩, c4, c5, c6, c7⟩ := Px.cells_at B34.out
      simp only [pxNil] at c3 c4 c5 c6 c7
      go_wp2_with fail
      clear f0 f1 f2 f3 f4 f5 f6 f7 c0 c1 c2 c3 c4 c5 c6 c7 fA0 fA1 fA2 fA3 fA4 fA5 fA6 fA7 cA0 cA1 cA2 cA3 cA4 cA5 cA6 cA7
      have B4 := setPx_blk B3S.out ({ Px.zero with kind := 3, name := nm, reply := rp, id := id }) (.slice none 0 0) (.slice none 0 0) (.slice none 0 0)
      obtain ⟨⟨c0, c1, c2, c3⟩, c4, c5, c6, c7⟩ := Px.cells_at B4
      have R4 := setPx_rdr RS.out w.heap.size (by omega) (by omega) (by omega) ({ Px.zero with kind := 3, name := nm, reply := rp, id := id }) (.slice none 0 0) (.slice none 0 0) (.slice none 0 0)
      have U4 := setPx_upd US.out (p := w.heap.size) (.inr (Nat.le_refl _)) ({ Px.zero with kind := 3, name := nm, reply := rp, id := id }) (.slice none 0 0) (.slice none 0 0) (.slice none 0 0)
      simp only [setPx, Px.zero] at c0 c1 c2 c3 c4 c5 c6 c7 R4 U4
      exact bodyPost_ret (v := (({ Px.zero with kind := 3, name := nm, reply := rp, id := id }) : Px).val (.slice none 0 0) (.slice none 0 0) (.slice none 0 0)) (by simp [results, Tryz.results31, go_sem, Px.val, Px.zero, c0, c1, c2, c3, c4, c5, c6, c7]) rfl ⟨rfl, R4, U4⟩
    · have hq : claimed l = ({ Px.zero with kind := y }, nrOk l 29 2 4) := by rw [claimed, ← hy, if_pos ⟨t1, t2⟩]
      rw [hq]
      have q1 : (y != 2) = true := by simpa using t1
      have q2 : (y != 3) = true := by simpa using t2
      have HY := Lib.hid hy
      clear hq hy t1 t2
      go_enter Tryz.func31, Tryz.ntmps31
      go_wp2_with fail
      refine (number_rd 29 2 4 H2.out HS.out).mono ?_
      rintro e w1 ⟨rfl, h1, hu1⟩
      rw [← HY.out]
      have H1 := Lib.hid h1
      have HU1 : Hid (Upd [b] w w1) := U2.out.more.trans hu1
      have hlt1 := h1.lts
      have hsz1 : w.heap.size < w1.heap.size := (B2.out.upd hu1 (by simp; omega)).lt
      have B3 := Lib.hid (B2.out.upd hu1 (by simp; omega))
      clear h1 hu1
      obtain ⟨f0, f1, f2, f3, f4, f5, f6, f7⟩ := B3.out.froz
      obtain ⟨⟨c0, c1, c2, c3⟩, c4, c5, c6, c7⟩ := Px.cells_at B3.out
      simp only [pxNil] at c3 c4 c5 c6 c7
      go_wp2_with fail
      clear f0 f1 f2 f3 f4 f5 f6 f7 c0 c1 c2 c3 c4 c5 c6 c7
      have B4 := (setPx_blk B3.out ({ Px.zero with kind := y }) (.slice none 0 0) (.slice none 0 0) (.slice none 0 0)).alloc (.cells (({ Px.zero with kind := y } : Px).cells (.slice none 0 0) (.slice none 0 0) (.slice none 0 0)) 24)
      obtain ⟨⟨c0, c1, c2, c3⟩, c4, c5, c6, c7⟩ := Px.cells_at B4
      have R4 := (setPx_rdr H1.out w.heap.size (by omega) (by omega) (by omega) ({ Px.zero with kind := y }) (.slice none 0 0) (.slice none 0 0) (.slice none 0 0)).more ((Upd.refl _ _).alloc (.cells (({ Px.zero with kind := y } : Px).cells (.slice none 0 0) (.slice none 0 0) (.slice none 0 0)) 24))
      have U4 := (setPx_upd HU1.out (p := w.heap.size) (.inr (Nat.le_refl _)) ({ Px.zero with kind := y }) (.slice none 0 0) (.slice none 0 0) (.slice none 0 0)).alloc (.cells (({ Px.zero with kind := y } : Px).cells (.slice none 0 0) (.slice none 0 0) (.slice none 0 0)) 24)
      simp only [setPx, Px.cells, Px.zero] at c0 c1 c2 c3 c4 c5 c6 c7 R4 U4
      exact bodyPost_ret (v := ({ Px.zero with kind := y } : Px).val (.slice none 0 0) (.slice none 0 0) (.slice none 0 0)) (by simp [results, Tryz.results31, go_sem, Px.val, Px.zero, c0, c1, c2, c3, c4, c5, c6, c7]) rfl ⟨rfl, R4, U4⟩
end Go.Proofs.YtljiichcmljbgaaGreat
