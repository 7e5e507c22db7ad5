/- WRITTEN by wip/gen/datapr.py. The walk of the statement DataProxies. -/
import Derived.Test.YtljiichcmljbgaaGreatQRDatK
import Derived.Test.YtljiichcmljbgaaGreatQDataW
import Derived.Test.YtljiichcmljbgaaGreatQDataBkA
import Derived.Test.YtljiichcmljbgaaGreatQBkApAO
import Derived.Test.YtljiichcmljbgaaGreatQBkAvpsA
import Derived.Test.YtljiichcmljbgaaGreatQBkZ
import Derived.Test.YtljiichcmljbgaaGreatQRes
namespace Go.Proofs.YtljiichcmljbgaaGreat
open Go.RowKit
set_option linter.unusedSimpArgs false
set_option linter.unusedVariables false
set_option maxRecDepth 100000

theorem getOptFrom_len : ∀ (M : Nat) (b : ByteArray) (out : List Tg), out.length ≤ 30 → (getOptFrom M b out).1.length ≤ 30
  | 0, _, _, h => h
  | M + 1, b, out, h => by
    rw [getOptFrom]
    split
    · exact h
    · split
      · simp
      · split
        · simp
        · split
          · simp
          · split
            · simp
            · exact getOptFrom_len M _ _ (by simp; omega)
theorem osAv_len (l : List Av) (k : Int) : (osAv l k).length ≤ 30 := getOptFrom_len _ _ _ (by simp)
theorem parsed_len (l : List Av) : (parsed l).first.length ≤ 30 ∧ (parsed l).tx.length ≤ 30 ∧ (parsed l).rx.length ≤ 30 := by
  obtain ⟨h1, h2, h3⟩ := claimPx_nil l
  rw [parsed_eq]
  split
  · exact ⟨osAv_len _ _, osAv_len _ _, osAv_len _ _⟩
  · rw [h1, h2, h3]; simp
theorem build_len (p : Px) : p.build.length ≤ 8 := by
  unfold Px.build
  split
  · simp
  · split
    · simp
    · unfold Px.all Px.link Px.auth
      simp only [List.length_append, List.length_cons, List.length_nil]
      split <;> split <;> (try split) <;> simp
theorem px_slices {w : World} {p : Px} {f t r : Value} (hf : TgsAt w f p.first) (ht : TgsAt w t p.tx) (hr : TgsAt w r p.rx) : ∃ a1 n1 c1 a2 n2 c2 a3 n3 c3, f = .slice a1 n1 c1 ∧ t = .slice a2 n2 c2 ∧ r = .slice a3 n3 c3 := by
  obtain ⟨_, _, e1⟩ := hf.slice
  obtain ⟨_, _, e2⟩ := ht.slice
  obtain ⟨_, _, e3⟩ := hr.slice
  exact ⟨_, _, _, _, _, _, _, _, _, e1, e2, e3⟩
set_option maxHeartbeats 2000000 in
/-- A proxy, laid anew. -/
theorem dplain_any (a1 : Option Addr) (n1 c1 : Nat) (a2 : Option Addr) (n2 c2 : Nat) (a3 : Option Addr) (n3 c3 : Nat) (pk pi : Int) (pn pv py : ByteArray) (w : World) :
    Calls Tryz.prog 13 #[.agg #[.slice a1 n1 c1, .slice a2 n2 c2, .slice a3 n3 c3, .int .i64 pk, .int .i64 pi, .string pn, .string pv, .string py]] w fun e w' => e = .returned (.agg #[.slice a1 n1 c1, .slice a2 n2 c2, .slice a3 n3 c3, .int .i64 pk, .int .i64 pi, .string pn, .string pv, .string py]) ∧ Upd [] w w' := by
  go_enter Tryz.func13, Tryz.ntmps13
  go_wp2_with fail
  exact bodyPost_ret (v := .agg #[.slice a1 n1 c1, .slice a2 n2 c2, .slice a3 n3 c3, .int .i64 pk, .int .i64 pi, .string pn, .string pv, .string py]) (by simp [results, Tryz.results13, go_sem]) rfl ⟨rfl, by repeat (with_reducible first | refine Upd.setCell _ ?_ (.inr (by simp)) | refine Upd.alloc _ ?_ | exact Upd.refl _ _)⟩
/-- What the round's condition asks, behind Build. -/
def prA (wB : World) (B : List Av) (vs : List Value) (W : World) : Prop := match vs with
  | [] => Upd [] wB W
  | [v] => Upd [] wB W ∧ AvsAt W v B
  | _ => False
theorem prA.upd {wB W : World} {B : List Av} {vs : List Value} (h : prA wB B vs W) : Upd [] wB W := by
  match vs with
  | [] => exact h
  | [_] => exact h.1
  | _ :: _ :: _ => exact h.elim
theorem prA.next {wB W W' : World} {B : List Av} {vs : List Value} (h : prA wB B vs W) (hu : Upd [] W W') : prA wB B vs W' := by
  match vs with
  | [] => exact Upd.trans h hu
  | [_] => exact ⟨h.1.trans hu, h.2.upd hu⟩
  | _ :: _ :: _ => exact h.elim
theorem OwnTgs.updT {T : List TypeId} {lo : Nat} {w w' : World} {u : Value} {l : List Tg} (h : OwnTgs w u l) (hu : UpdT T lo w w') (ht : 131 ∉ T) : OwnTgs w' u l := by
  obtain ⟨own, h⟩ := h
  exact ⟨own, h.updT hu ht⟩
theorem OwnTgs.keep {w w' : World} {u : Value} {l : List Tg} (h : OwnTgs w u l) (hu : Upd [] w w') : OwnTgs w' u l := by
  obtain ⟨own, h⟩ := h
  exact ⟨own, h.upd hu (by simp)⟩

theorem mem_add {α : Type} {R : List α} {b d : α} {c : Prop} [Decidable c] (h : d ∈ (if c then R ++ [b] else R)) : d ∈ R ∨ d = b := by
  split at h
  · simpa using h
  · exact .inl h
set_option maxHeartbeats 8000000 in
theorem dataProxies_any (p q : Px) (vf vt vr uf ut ur : Value) (l : List Av) (v : Value) (w : World) (hf : TgsAt w vf p.first) (ht : TgsAt w vt p.tx) (hr : TgsAt w vr p.rx) (hs : ∀ l ∈ p.ls, ∀ t ∈ l, t.s.size ≤ 140737488355328)
    (hz : p.name.size ≤ 140737488355328 ∧ p.value.size ≤ 140737488355328 ∧ p.reply.size ≤ 140737488355328) (hpk : -9223372036854775808 ≤ p.kind ∧ p.kind ≤ 9223372036854775807)
    (gf : TgsAt w uf q.first) (gt : TgsAt w ut q.tx) (gr : TgsAt w ur q.rx) (gs : ∀ l ∈ q.ls, ∀ t ∈ l, t.s.size ≤ 140737488355328)
    (gz : q.name.size ≤ 140737488355328 ∧ q.value.size ≤ 140737488355328 ∧ q.reply.size ≤ 140737488355328)
    (hl : AvsAt w v l) (hls : ∀ t ∈ l, t.val.size ≤ 140737488355328) :
    Calls Tryz.prog 3 #[p.val vf vt vr, q.val uf ut ur, v] w fun e w' => e = .returned (.bool true) ∧ Upd [] w w' := by
  obtain ⟨B, hB⟩ : ∃ B, B = p.build := ⟨_, rfl⟩
  have hBl : B.length ≤ 8 := by rw [hB]; exact build_len p
  obtain ⟨lp, hlp⟩ : ∃ x, x = lightP p := ⟨_, rfl⟩
  obtain ⟨lq, hlq⟩ : ∃ x, x = lightP q := ⟨_, rfl⟩
  obtain ⟨la, hla⟩ : ∃ x, x = LightA l := ⟨_, rfl⟩
  obtain ⟨spq, hspq⟩ : ∃ x, x = pxSame p q := ⟨_, rfl⟩
  obtain ⟨a1, n1, c1, a2, n2, c2, a3, n3, c3, rfl, rfl, rfl⟩ := px_slices hf ht hr
  obtain ⟨b1, m1, d1, b2, m2, d2, b3, m3, d3, rfl, rfl, rfl⟩ := px_slices gf gt gr
  have q1 := fun W (hW : Upd [] w W) => lightP_any p _ _ _ W (hf.upd hW) (ht.upd hW) (hr.upd hW) hs hz
  have q2 := fun W (hW : Upd [] w W) => lightP_any q _ _ _ W (gf.upd hW) (gt.upd hW) (gr.upd hW) gs gz
  have q3 := fun W (hW : Upd [] w W) => rbuild_any p _ _ _ W (hf.upd hW) (ht.upd hW) (hr.upd hW) hs hz hpk
  have q4 := fun W (hW : Upd [] w W) => build_any p _ _ _ W (hf.upd hW) (ht.upd hW) (hr.upd hW) hs hz
  have q5 := fun W (hW : Upd [] w W) => dsame2_any p q _ _ _ _ _ _ W (hf.upd hW) (ht.upd hW) (hr.upd hW) (gf.upd hW) (gt.upd hW) (gr.upd hW)
  have q6 := fun W (hW : Upd [] w W) => rsameP_any p q _ _ _ _ _ _ W (hf.upd hW) (ht.upd hW) (hr.upd hW) (gf.upd hW) (gt.upd hW) (gr.upd hW)
  have q7 := fun W (hW : Upd [] w W) => lightA_any l v W (hl.upd hW) hls
  have q8 := fun W (hW : Upd [] w W) => rparse_any l v W (hl.upd hW) hls
  simp only [← hlp] at q1
  simp only [← hlq] at q2
  simp only [← hB] at q3 q4
  simp only [← hspq] at q5 q6
  simp only [← hla] at q7
  obtain ⟨pf, pt, pr, pk, pi, pn, pv, py⟩ := p
  obtain ⟨qf, qt, qr, qk, qi, qn, qv, qy⟩ := q
  simp only [Px.val] at q1 q2 q3 q4 q5 q6 ⊢
  have Q1 := Lib.hid q1
  have Q2 := Lib.hid q2
  have Q3 := Lib.hid q3
  have Q4 := Lib.hid q4
  have Q5 := Lib.hid q5
  have Q6 := Lib.hid q6
  have Q7 := Lib.hid q7
  have Q8 := Lib.hid q8
  have HL := Lib.hid hl
  have HLS := Lib.hid hls
  have HBL := Lib.hid hBl
  have HLA : Hid (la = true → l.length ≤ 50) := fun h => by
    rw [hla] at h
    unfold LightA at h
    simp at h
    exact h.1
  have hvs : ∃ av nv cv, v = .slice av nv cv := by obtain ⟨ao, cap, rfl, -⟩ := hl; exact ⟨_, _, _, rfl⟩
  obtain ⟨av, nv, cv, rfl⟩ := hvs
  clear q1 q2 q3 q4 q5 q6 q7 q8 hf ht hr hs hz hpk gf gt gr gs gz hl hls hB hBl hlp hlq hla hspq
  obtain ⟨wz, hwz⟩ : ∃ wz, wz = (w.alloc (.cells #[.slice a1 n1 c1, .slice a2 n2 c2, .slice a3 n3 c3, .int .i64 pk, .int .i64 pi, .string pn, .string pv, .string py] 24)).alloc (.cells #[.slice b1 m1 d1, .slice b2 m2 d2, .slice b3 m3 d3, .int .i64 qk, .int .i64 qi, .string qn, .string qv, .string qy] 24) := ⟨_, rfl⟩
  have HB1 : Hid (Blk wz w.heap.size 24 #[.slice a1 n1 c1, .slice a2 n2 c2, .slice a3 n3 c3, .int .i64 pk, .int .i64 pi, .string pn, .string pv, .string py]) := by show Blk _ _ _ _; rw [hwz]; exact (Blk.new _ _ _).alloc _
  have HB2 : Hid (Blk wz (w.heap.size + 1) 24 #[.slice b1 m1 d1, .slice b2 m2 d2, .slice b3 m3 d3, .int .i64 qk, .int .i64 qi, .string qn, .string qv, .string qy]) := by
    show Blk _ _ _ _
    have h := Blk.new (w.alloc (.cells #[.slice a1 n1 c1, .slice a2 n2 c2, .slice a3 n3 c3, .int .i64 pk, .int .i64 pi, .string pn, .string pv, .string py] 24)) 24 #[.slice b1 m1 d1, .slice b2 m2 d2, .slice b3 m3 d3, .int .i64 qk, .int .i64 qi, .string qn, .string qv, .string qy]
    rw [show (w.alloc (.cells #[.slice a1 n1 c1, .slice a2 n2 c2, .slice a3 n3 c3, .int .i64 pk, .int .i64 pi, .string pn, .string pv, .string py] 24)).heap.size = w.heap.size + 1 by simp] at h
    rw [hwz]
    exact h
  have HUz : Hid (Upd [] w wz) := by show Upd _ _ _; rw [hwz]; exact ((Upd.refl _ _).alloc _).alloc _
  have HWZ := Lib.hid hwz
  clear hwz
  go_enter Tryz.func3, Tryz.ntmps3
  go_wp2_with fail
  rw [← HWZ.out]
  refine (Q1.out _ HUz.out).mono ?_
  rintro e w1 ⟨rfl, hu1⟩
  have HU1 := Lib.hid (HUz.out.trans hu1)
  have HX1 := Lib.hid (HB1.out.upd hu1 (by simp))
  have HY1 := Lib.hid (HB2.out.upd hu1 (by simp))
  clear hu1
  obtain ⟨y0, y1, y2, y3, y4, y5, y6, y7⟩ := px8 HY1.out
  cases lp
  · go_wp2_with fail
    refine (dalive_any _).mono ?_
    rintro e wv ⟨rfl, huv⟩
    go_wp2_with fail
    go_ret
    exact ⟨rfl, HU1.out.trans huv⟩
  go_wp2_with fail
  refine (Q2.out _ HU1.out).mono ?_
  rintro e w2 ⟨rfl, hu2⟩
  have HU2 := Lib.hid (HU1.out.trans hu2)
  have HX2 := Lib.hid (HX1.out.upd hu2 (by simp))
  have HY2 := Lib.hid (HY1.out.upd hu2 (by simp))
  clear hu2
  clear y0 y1 y2 y3 y4 y5 y6 y7
  cases lq
  · go_wp2_with fail
    refine (dalive_any _).mono ?_
    rintro e wv ⟨rfl, huv⟩
    go_wp2_with fail
    go_ret
    exact ⟨rfl, HU2.out.trans huv⟩
  go_wp2_with fail
  refine (Q7.out _ HU2.out).mono ?_
  rintro e w3 ⟨rfl, hu3⟩
  have HU3 := Lib.hid (HU2.out.trans hu3)
  have HX3 := Lib.hid (HX2.out.upd hu3 (by simp))
  have HY3 := Lib.hid (HY2.out.upd hu3 (by simp))
  clear hu3
  cases la
  · go_wp2_with fail
    refine (dalive_any _).mono ?_
    rintro e wv ⟨rfl, huv⟩
    go_wp2_with fail
    go_ret
    exact ⟨rfl, HU3.out.trans huv⟩
  have hll := HLA.out rfl
  clear HU1 HU2 HX1 HX2 HY1 HY2 HUz HB1 HB2 HWZ HLA Q1 Q2 Q7
  go_wp2_with (refine wpList_build_of rfl 49 rfl bkZ (bk_build _) ?_)
  have HK0 : Hid (∃ g, g = w3.heap.size ∧ BkAO [] w3 (w3.alloc (Obj.cells bkZ 49)) g [] []) := ⟨_, rfl, BkAO.zero w3 w3 (Upd.refl _ _) (by simp) rfl⟩
  have HU4 : Hid (Upd [] w (w3.alloc (Obj.cells bkZ 49))) := HU3.out.alloc _
  generalize w3.alloc (Obj.cells bkZ 49) = w4 at *
  obtain ⟨g, hg, HK⟩ := HK0.out
  rw [← hg]
  have HK4 := Lib.hid HK
  clear HK HK0 hg
  refine (Q8.out _ HU4.out).mono ?_
  rintro e w5 ⟨⟨wf, wt, wr5, rfl, tf, tt, tr⟩, hu5⟩
  obtain ⟨g1, j1, h1, g2, j2, h2, g3, j3, h3, rfl, rfl, rfl⟩ := px_slices tf.tgs tt.tgs tr.tgs
  obtain ⟨lk, hlk⟩ : ∃ x, x = linked l := ⟨_, rfl⟩
  obtain ⟨cl, hcl⟩ : ∃ x, x = (claimed l).2 := ⟨_, rfl⟩
  rw [← hlk, ← hcl]
  obtain ⟨X, hX⟩ : ∃ x, x = parsed l := ⟨_, rfl⟩
  have hxl := parsed_len l
  rw [← hX] at tf tt tr hxl ⊢
  have HPA : Hid (∀ W v, AvsAt W v l → Calls Tryz.prog 10 #[v] W (GivesPx X lk cl W)) := fun W v h => by rw [hlk, hcl, hX]; exact parse_any l v W h HLS.out
  have HXS : Hid (pxSame X X = true) := pxSame_refl X
  have HXL := Lib.hid hxl
  obtain ⟨xf, xt, xr, xk, xi, xn, xv, xy⟩ := X
  simp only at tf tt tr hxl
  simp only [Px.val]
  clear hX hlk hcl hxl Q8
  obtain ⟨BW, hBW⟩ : ∃ x, x = w5.heap.size := ⟨_, rfl⟩
  have HK5 := Lib.hid (HK4.out.upd hu5)
  obtain ⟨w6, hw6⟩ : ∃ x, x = w5.alloc (.cells #[.slice g1 j1 h1, .slice g2 j2 h2, .slice g3 j3 h3, .int .i64 xk, .int .i64 xi, .string xn, .string xv, .string xy] 50) := ⟨_, rfl⟩
  have HW6 : Hid (Blk w6 BW 50 #[.slice g1 j1 h1, .slice g2 j2 h2, .slice g3 j3 h3, .int .i64 xk, .int .i64 xi, .string xn, .string xv, .string xy]) := by show Blk _ _ _ _; rw [hw6, hBW]; exact Blk.new _ _ _
  have HT6 : Hid (OwnTgs w6 (.slice g1 j1 h1) xf ∧ OwnTgs w6 (.slice g2 j2 h2) xt ∧ OwnTgs w6 (.slice g3 j3 h3) xr) := by
    show _ ∧ _
    have hu : Upd [] w5 w6 := by rw [hw6]; exact (Upd.refl _ _).alloc _
    exact ⟨tf.keep hu, tt.keep hu, tr.keep hu⟩
  have HK6 : Hid (BkAO [] w3 w6 g [] []) := by show BkAO _ _ _ _ _ _; rw [hw6]; exact HK5.out.upd ((Upd.refl _ _).alloc _)
  have HWW := Lib.hid hw6
  have HBW := Lib.hid hBW
  clear hw6 hBW tf tt tr hu5 HK4 HK5 HU4
  go_wp2_with fail
  rw [← HWW.out, ← HBW.out]
  clear HWW HBW
  go_loopg [11] 2 (fun mm s11 wr => ∃ (k : Nat) (RA : List (Bit Av)) (RO : List (Bit Tg)), k + mm = 2 ∧ s11 = .int .i64 k ∧ BkAO [] w3 wr g RA RO ∧ Blk wr BW 50 #[.slice g1 j1 h1, .slice g2 j2 h2, .slice g3 j3 h3, .int .i64 xk, .int .i64 xi, .string xn, .string xv, .string xy] ∧ OwnTgs wr (.slice g1 j1 h1) xf ∧ OwnTgs wr (.slice g2 j2 h2) xt ∧ OwnTgs wr (.slice g3 j3 h3) xr)
  case atStart => exact ⟨0, [], [], by omega, rfl, HK6.out, HW6.out, HT6.out.1, HT6.out.2.1, HT6.out.2.2⟩
  case round =>
    obtain ⟨k, RA, RO, hk, rfl, hbk, hbw, o1, o2, o3⟩ := hrel
    have HBK := Lib.hid hbk
    have HBW := Lib.hid hbw
    have HTW := Lib.hid (And.intro o1 (And.intro o2 o3))
    clear hbk hbw o1 o2 o3 HK6 HW6 HT6
    by_cases t : k < 2
    rotate_left
    · obtain rfl : k = 2 := by omega
      go_wp2_with fail
      refine (dalive_any _).mono ?_
      rintro e w7 ⟨rfl, hu7⟩
      have HB7 := Lib.hid (HBK.out.upd hu7)
      clear hu7
      go_wp2_with fail
      refine (apartAO_any HB7.out).mono ?_
      rintro e w8 ⟨rfl, hu8⟩
      go_wp2_with fail
      go_ret
      exact ⟨rfl, HU3.out.trans hu8⟩
    have ti : (k : Int) < 2 := by omega
    have HUR : Hid (Upd [] w wr) := HU3.out.trans HBK.out.ups
    go_wp2_with fail
    refine (bkLentAvps l _ _ (HL.out.upd HUR.out).rd (by omega)).mono ?_
    rintro e w7 ⟨v7, own7, rfl, hv7, hf7, hu7⟩
    have HV7 := Lib.hid hv7
    have HUA := Lib.hid hu7
    have hx7 := HX3.out.upd (HBK.out.ups.trans hu7) (by simp)
    obtain ⟨x0, x1, x2, x3, x4, x5, x6, x7⟩ := px8 hx7
    clear hv7 hf7 hu7 hx7
    go_wp2_with fail
    refine (Q4.out _ (HUR.out.trans HUA.out)).mono ?_
    rintro e w8 ⟨va, rfl, hva, hu8⟩
    obtain ⟨owna, hoa, hfa⟩ := hva
    obtain ⟨aa, ca, rfl, -, -⟩ := hoa.shape
    have HVA := Lib.hid hoa
    have HFA := Lib.hid (fun y hy => Nat.le_trans HUA.out.size (hfa y hy))
    have HV8 := Lib.hid (HV7.out.updD hu8)
    have HUB := Lib.hid (HUA.out.trans hu8)
    clear hoa hfa hu8 HUA HV7
    clear x0 x1 x2 x3 x4 x5 x6 x7
    obtain ⟨g7, of7, cp7, rfl, -⟩ := id HV8.out
    go_wp2_with fail
    refine (HPA.out _ _ (AvsAt.of_own (HV8.out.own bkCAvps_len))).mono ?_
    rintro e w9 ⟨⟨f9, t9, r9, q1, q2, q3, rfl, hf9, ht9, hr9, i1, i2, i3, -, n12, n13, n23⟩, hu9⟩
    obtain ⟨e1, k1, f1, e2, k2, f2, e3, k3, f3, rfl, rfl, rfl⟩ := px_slices (tgs_own hf9) (tgs_own ht9) (tgs_own hr9)
    obtain ⟨BX, hBX⟩ : ∃ x, x = w9.heap.size := ⟨_, rfl⟩
    obtain ⟨w10, hw10⟩ : ∃ x, x = w9.alloc (.cells #[.slice e1 k1 f1, .slice e2 k2 f2, .slice e3 k3 f3, .int .i64 xk, .int .i64 xi, .string xn, .string xv, .string xy] 24) := ⟨_, rfl⟩
    have hu10 : Upd [] w9 w10 := by rw [hw10]; exact (Upd.refl _ _).alloc _
    have HX10 : Hid (Blk w10 BX 24 #[.slice e1 k1 f1, .slice e2 k2 f2, .slice e3 k3 f3, .int .i64 xk, .int .i64 xi, .string xn, .string xv, .string xy]) := by show Blk _ _ _ _; rw [hw10, hBX]; exact Blk.new _ _ _
    have HF1 := Lib.hid (hf9.updD hu10)
    have HF2 := Lib.hid (ht9.updD hu10)
    have HF3 := Lib.hid (hr9.updD hu10)
    have HUC : Hid (Upd [] wr w10) := (HUB.out.trans hu9).trans hu10
    have HI1 : Hid (∀ y, y ∈ q1 → wr.heap.size ≤ y) := fun y hy => Nat.le_trans HUB.out.size (i1 y hy)
    have HI2 : Hid (∀ y, y ∈ q2 → wr.heap.size ≤ y) := fun y hy => Nat.le_trans HUB.out.size (i2 y hy)
    have HI3 : Hid (∀ y, y ∈ q3 → wr.heap.size ≤ y) := fun y hy => Nat.le_trans HUB.out.size (i3 y hy)
    have HN := Lib.hid (And.intro n12 (And.intro n13 n23))
    have HV10 := Lib.hid ((HV8.out.updD hu9).updD hu10)
    have HA10 := Lib.hid ((HVA.out.updD hu9).updD hu10)
    have HWW := Lib.hid hw10
    have HBX := Lib.hid hBX
    clear hf9 ht9 hr9 i1 i2 i3 n12 n13 n23 hu9 hu10 hw10 hBX HV8 HVA HUB HPA
    simp only [Px.val] at *
    go_wp2_with fail
    rw [← HWW.out, ← HBX.out]
    clear HWW HBX
    have HPC : Hid (∀ W, Upd [] w10 W → Blk W w.heap.size 24 #[.slice a1 n1 c1, .slice a2 n2 c2, .slice a3 n3 c3, .int .i64 pk, .int .i64 pi, .string pn, .string pv, .string py] ∧ Blk W (w.heap.size + 1) 24 #[.slice b1 m1 d1, .slice b2 m2 d2, .slice b3 m3 d3, .int .i64 qk, .int .i64 qi, .string qn, .string qv, .string qy] ∧ Blk W BX 24 #[.slice e1 k1 f1, .slice e2 k2 f2, .slice e3 k3 f3, .int .i64 xk, .int .i64 xi, .string xn, .string xv, .string xy] ∧ Blk W BW 50 #[.slice g1 j1 h1, .slice g2 j2 h2, .slice g3 j3 h3, .int .i64 xk, .int .i64 xi, .string xn, .string xv, .string xy]) := fun W hW =>
      ⟨HX3.out.upd ((HBK.out.ups.trans HUC.out).trans hW) (by simp), HY3.out.upd ((HBK.out.ups.trans HUC.out).trans hW) (by simp), HX10.out.upd hW (by simp), HBW.out.upd (HUC.out.trans hW) (by simp)⟩
    have HUW : Hid (∀ W, Upd [] w10 W → Upd [] w W) := fun W hW => (HUR.out.trans HUC.out).trans hW
    have HSX : Hid (∀ W, Upd [] w10 W → Calls Tryz.prog 15 #[.agg #[.slice e1 k1 f1, .slice e2 k2 f2, .slice e3 k3 f3, .int .i64 xk, .int .i64 xi, .string xn, .string xv, .string xy], .agg #[.slice e1 k1 f1, .slice e2 k2 f2, .slice e3 k3 f3, .int .i64 xk, .int .i64 xi, .string xn, .string xv, .string xy]] W fun e w' => e = .returned (.bool true) ∧ Upd [] W w') := fun W hW => by
      have h := dsame2_any ⟨xf, xt, xr, xk, xi, xn, xv, xy⟩ ⟨xf, xt, xr, xk, xi, xn, xv, xy⟩ _ _ _ _ _ _ W (tgs_own (HF1.out.updD hW)) (tgs_own (HF2.out.updD hW)) (tgs_own (HF3.out.updD hW)) (tgs_own (HF1.out.updD hW)) (tgs_own (HF2.out.updD hW)) (tgs_own (HF3.out.updD hW))
      rw [HXS.out] at h
      exact h
    have HSW : Hid (∀ W, Upd [] w10 W → Calls Tryz.prog 14 #[.agg #[.slice e1 k1 f1, .slice e2 k2 f2, .slice e3 k3 f3, .int .i64 xk, .int .i64 xi, .string xn, .string xv, .string xy], .agg #[.slice g1 j1 h1, .slice g2 j2 h2, .slice g3 j3 h3, .int .i64 xk, .int .i64 xi, .string xn, .string xv, .string xy]] W fun e w' => e = .returned (.bool true) ∧ Upd [] W w') := fun W hW => by
      have h := rsameP_any ⟨xf, xt, xr, xk, xi, xn, xv, xy⟩ ⟨xf, xt, xr, xk, xi, xn, xv, xy⟩ _ _ _ _ _ _ W (tgs_own (HF1.out.updD hW)) (tgs_own (HF2.out.updD hW)) (tgs_own (HF3.out.updD hW)) (HTW.out.1.keep (HUC.out.trans hW)).tgs (HTW.out.2.1.keep (HUC.out.trans hW)).tgs (HTW.out.2.2.keep (HUC.out.trans hW)).tgs
      rw [HXS.out] at h
      exact h
    have HSA : Hid (∀ W u, Upd [] w10 W → AvsAt W u B → Calls Tryz.prog 11 #[.slice aa B.length ca, u] W fun e w' => e = .returned (.bool true) ∧ Upd [] W w') := fun W u hW hu =>
      (bkSameAvps B _ _ W ((HA10.out.updD hW).rdB (bkCAvps_one _)) hu.rd).mono fun e w' ⟨h1, x, h2⟩ => ⟨h1, h2 ▸ (Upd.refl _ _).drewN x⟩
    have HST : Hid (∀ W, Upd [] w10 W → Calls Tryz.prog 16 #[.slice (some ⟨g7, of7, none⟩) l.length cp7, .slice av nv cv] W fun e w' => e = .returned (.bool true) ∧ Upd [] W w') := fun W hW =>
      bkStaysAvps l _ _ own7 W (HV10.out.updD hW) (HL.out.upd (HUW.out W hW)).rd
    refine wp_region_chain [some (.slice aa B.length ca), some (.agg #[.slice a1 n1 c1, .slice a2 n2 c2, .slice a3 n3 c3, .int .i64 pk, .int .i64 pi, .string pn, .string pv, .string py]), some (.agg #[.slice a1 n1 c1, .slice a2 n2 c2, .slice a3 n3 c3, .int .i64 pk, .int .i64 pi, .string pn, .string pv, .string py]), none, some (.bool true), some (.bool false), some (.bool false), some (.agg #[.slice e1 k1 f1, .slice e2 k2 f2, .slice e3 k3 f3, .int .i64 xk, .int .i64 xi, .string xn, .string xv, .string xy]), some (.agg #[.slice e1 k1 f1, .slice e2 k2 f2, .slice e3 k3 f3, .int .i64 xk, .int .i64 xi, .string xn, .string xv, .string xy]), some (.agg #[.slice g1 j1 h1, .slice g2 j2 h2, .slice g3 j3 h3, .int .i64 xk, .int .i64 xi, .string xn, .string xv, .string xy]), some (.bool true), some (.bool false), some (.bool false), some (.bool false), some (.bool lk), some (.bool lk), some (.bool false), some (.bool false), some (.bool false), some (.bool cl), some (.bool cl), some (.bool false), some (.bool false), some (.bool false), some (.agg #[.slice a1 n1 c1, .slice a2 n2 c2, .slice a3 n3 c3, .int .i64 pk, .int .i64 pi, .string pn, .string pv, .string py]), some (.agg #[.slice b1 m1 d1, .slice b2 m2 d2, .slice b3 m3 d3, .int .i64 qk, .int .i64 qi, .string qn, .string qv, .string qy]), some (.bool spq), some (.agg #[.slice a1 n1 c1, .slice a2 n2 c2, .slice a3 n3 c3, .int .i64 pk, .int .i64 pi, .string pn, .string pv, .string py]), some (.agg #[.slice a1 n1 c1, .slice a2 n2 c2, .slice a3 n3 c3, .int .i64 pk, .int .i64 pi, .string pn, .string pv, .string py]), some (.agg #[.slice b1 m1 d1, .slice b2 m2 d2, .slice b3 m3 d3, .int .i64 qk, .int .i64 qi, .string qn, .string qv, .string qy]), some (.agg #[.slice b1 m1 d1, .slice b2 m2 d2, .slice b3 m3 d3, .int .i64 qk, .int .i64 qi, .string qn, .string qv, .string qy]), some (.bool spq), some (.bool false), some (.bool false), some (.bool false), some (.agg #[.slice e1 k1 f1, .slice e2 k2 f2, .slice e3 k3 f3, .int .i64 xk, .int .i64 xi, .string xn, .string xv, .string xy]), some (.agg #[.slice e1 k1 f1, .slice e2 k2 f2, .slice e3 k3 f3, .int .i64 xk, .int .i64 xi, .string xn, .string xv, .string xy]), some (.bool true), some (.bool false), some (.bool false), some (.bool false), some (.slice (some ⟨g7, of7, none⟩) l.length cp7), some (.slice av nv cv), some (.bool true), some (.bool false), some (.bool false)] [3] (prA w10 B) [(0, 1), (0, 0), (0, 0), (0, 0), (1, 1), (1, 1), (1, 1), (1, 1), (1, 1), (1, 1), (1, 1), (1, 1), (1, 1), (1, 1), (1, 1), (1, 1), (1, 1), (1, 1), (1, 1), (1, 1), (1, 1), (1, 1), (1, 1), (1, 1), (1, 1), (1, 1), (1, 1), (1, 1), (1, 1), (1, 1), (1, 1), (1, 1), (1, 1), (1, 1), (1, 1), (1, 1), (1, 1), (1, 1), (1, 1), (1, 1), (1, 1), (1, 1), (1, 1), (1, 1), (1, 1), (1, 1)] (by kernel_rfl) (by kernel_rfl) (by kernel_rfl) (by kernel_rfl) (by kernel_rfl) (by kernel_rfl) ((Upd.refl _ _).drew) ?_ ?_
    · refine StepsC.cons ?_ (StepsC.cons ?_ (StepsC.cons ?_ (StepsC.cons ?_ (StepsC.cons ?_ (StepsC.cons ?_ (StepsC.cons ?_ (StepsC.cons ?_ (StepsC.cons ?_ (StepsC.cons ?_ (StepsC.cons ?_ (StepsC.cons ?_ (StepsC.cons ?_ (StepsC.cons ?_ (StepsC.cons ?_ (StepsC.cons ?_ (StepsC.cons ?_ (StepsC.cons ?_ (StepsC.cons ?_ (StepsC.cons ?_ (StepsC.cons ?_ (StepsC.cons ?_ (StepsC.cons ?_ (StepsC.cons ?_ (StepsC.cons ?_ (StepsC.cons ?_ (StepsC.cons ?_ (StepsC.cons ?_ (StepsC.cons ?_ (StepsC.cons ?_ (StepsC.cons ?_ (StepsC.cons ?_ (StepsC.cons ?_ (StepsC.cons ?_ (StepsC.cons ?_ (StepsC.cons ?_ (StepsC.cons ?_ (StepsC.cons ?_ (StepsC.cons ?_ (StepsC.cons ?_ (StepsC.cons ?_ (StepsC.cons ?_ (StepsC.cons ?_ (StepsC.cons ?_ (StepsC.cons ?_ (StepsC.cons ?_ StepsC.nil)))))))))))))))))))))))))))))))))))))))))))))
      · refine chain_is _ (.inl rfl) ⟨_, rfl⟩ (by kernel_rfl) rfl ?_
        intro a W kst l0 h0 A0 hF hD
        have e13 : a.tmps[13]?.getD undef = _ := (ev a 13).symm.trans (hF 13 (by kernel_rfl))
        clear hF hD
        go_simp
      · refine chain_is _ (.inl rfl) ⟨_, rfl⟩ (by kernel_rfl) rfl ?_
        intro a W kst l0 h0 A0 hF hD
        have k0 : kst = 0 := Nat.le_antisymm h0 l0
        subst k0
        clear l0 h0
        have e3 : a.tmps[3]?.getD undef = _ := (ev a 3).symm.trans (hF 3 (by kernel_rfl))
        clear hF hD
        obtain ⟨x0, x1, x2, x3, x4, x5, x6, x7⟩ := px8 (HPC.out W (prA.upd A0)).1
        go_simp
      · refine chain_beside _ (.inl rfl) ⟨_, rfl⟩ (by kernel_rfl) rfl ?_
        intro a W kst l0 h0 A0 hF hD
        have k0 : kst = 0 := Nat.le_antisymm h0 l0
        subst k0
        clear l0 h0
        have e54 : a.tmps[54]?.getD undef = .agg #[.slice a1 n1 c1, .slice a2 n2 c2, .slice a3 n3 c3, .int .i64 pk, .int .i64 pi, .string pn, .string pv, .string py] := (ev a 54).symm.trans (hD _ (Array.mem_of_getElem? (i := 0) rfl) rfl)
        clear hF hD
        refine ⟨_, _, by (go_simp; first | done | rfl | exact ⟨rfl, rfl⟩), ?_⟩
        refine (dplain_any _ _ _ _ _ _ _ _ _ _ _ _ _ _ _).mono ?_
        rintro e w2 ⟨rfl, hu⟩
        exact ⟨rfl, prA.next A0 hu⟩
      · refine chain_call (.inl rfl) ⟨_, rfl⟩ (by kernel_rfl) ?_
        intro a W kst l0 h0 A0 hF hD
        have k0 : kst = 0 := Nat.le_antisymm h0 l0
        subst k0
        clear l0 h0
        have e55 : a.tmps[55]?.getD undef = .agg #[.slice a1 n1 c1, .slice a2 n2 c2, .slice a3 n3 c3, .int .i64 pk, .int .i64 pi, .string pn, .string pv, .string py] := (ev a 55).symm.trans (hD _ (Array.mem_of_getElem? (i := 0) rfl) rfl)
        clear hF hD
        refine ⟨_, _, by (go_simp; first | done | rfl | exact ⟨rfl, rfl⟩), ?_⟩
        refine (Q3.out _ (HUW.out W A0)).mono ?_
        rintro e w2 ⟨v, rfl, h1, h2⟩
        exact ⟨v, rfl, trivial, Upd.trans A0 h2, h1⟩
      · refine chain_beside _ (.inl rfl) ⟨_, rfl⟩ (by kernel_rfl) rfl ?_
        intro a W kst l0 h0 A0 hF hD
        have k0 : kst = 1 := Nat.le_antisymm h0 l0
        subst k0
        clear l0 h0
        have e53 : a.tmps[53]?.getD undef = .slice aa B.length ca := (ev a 53).symm.trans (hD _ (Array.mem_of_getElem? (i := 0) rfl) rfl)
        clear hF hD
        have hav : AvsAt W (a.tmps[56]?.getD undef) B := by (rw [← ev]; exact A0.2)
        refine ⟨_, _, by (go_simp; first | done | rfl | exact ⟨rfl, rfl⟩), ?_⟩
        refine (HSA.out W _ A0.1 hav).mono ?_
        rintro e w2 ⟨rfl, hu⟩
        exact ⟨rfl, prA.next A0 hu⟩
      · refine chain_is _ (.inl rfl) ⟨_, rfl⟩ (by kernel_rfl) rfl ?_
        intro a W kst l0 h0 A0 hF hD
        have k0 : kst = 1 := Nat.le_antisymm h0 l0
        subst k0
        clear l0 h0
        have e57 : a.tmps[57]?.getD undef = .bool true := (ev a 57).symm.trans (hD _ (Array.mem_of_getElem? (i := 0) rfl) rfl)
        clear hF hD
        go_simp
      · refine chain_is _ (.inl rfl) ⟨_, rfl⟩ (by kernel_rfl) rfl ?_
        intro a W kst l0 h0 A0 hF hD
        have k0 : kst = 1 := Nat.le_antisymm h0 l0
        subst k0
        clear l0 h0
        have e58 : a.tmps[58]?.getD undef = .bool false := (ev a 58).symm.trans (hD _ (Array.mem_of_getElem? (i := 0) rfl) rfl)
        clear hF hD
        go_simp
      · refine chain_is _ (.inr ⟨_, _, _, rfl, Array.mem_of_getElem? (i := 0) rfl, rfl, rfl, fun _ h => h⟩) ⟨_, rfl⟩ (by kernel_rfl) rfl ?_
        intro a W kst l0 h0 A0 hF hD
        have k0 : kst = 1 := Nat.le_antisymm h0 l0
        subst k0
        clear l0 h0
        have e14 : a.tmps[14]?.getD undef = _ := (ev a 14).symm.trans (hF 14 (by kernel_rfl))
        clear hF hD
        obtain ⟨x0, x1, x2, x3, x4, x5, x6, x7⟩ := px8 (HPC.out W (prA.upd A0)).2.2.1
        go_simp
      · refine chain_beside _ (.inr ⟨_, _, _, rfl, Array.mem_of_getElem? (i := 1) rfl, rfl, rfl, fun _ h => h⟩) ⟨_, rfl⟩ (by kernel_rfl) rfl ?_
        intro a W kst l0 h0 A0 hF hD
        have k0 : kst = 1 := Nat.le_antisymm h0 l0
        subst k0
        clear l0 h0
        have e60 : a.tmps[60]?.getD undef = .agg #[.slice e1 k1 f1, .slice e2 k2 f2, .slice e3 k3 f3, .int .i64 xk, .int .i64 xi, .string xn, .string xv, .string xy] := (ev a 60).symm.trans (hD _ (Array.mem_of_getElem? (i := 0) rfl) rfl)
        clear hF hD
        refine ⟨_, _, by (go_simp; first | done | rfl | exact ⟨rfl, rfl⟩), ?_⟩
        refine (dplain_any _ _ _ _ _ _ _ _ _ _ _ _ _ _ _).mono ?_
        rintro e w2 ⟨rfl, hu⟩
        exact ⟨rfl, prA.next A0 hu⟩
      · refine chain_is _ (.inr ⟨_, _, _, rfl, Array.mem_of_getElem? (i := 0) rfl, rfl, rfl, fun _ h => h⟩) ⟨_, rfl⟩ (by kernel_rfl) rfl ?_
        intro a W kst l0 h0 A0 hF hD
        have k0 : kst = 1 := Nat.le_antisymm h0 l0
        subst k0
        clear l0 h0
        have e8 : a.tmps[8]?.getD undef = _ := (ev a 8).symm.trans (hF 8 (by kernel_rfl))
        clear hF hD
        obtain ⟨x0, x1, x2, x3, x4, x5, x6, x7⟩ := px8 (HPC.out W (prA.upd A0)).2.2.2
        go_simp
      · refine chain_beside _ (.inr ⟨_, _, _, rfl, Array.mem_of_getElem? (i := 3) rfl, rfl, rfl, fun _ h => h⟩) ⟨_, rfl⟩ (by kernel_rfl) rfl ?_
        intro a W kst l0 h0 A0 hF hD
        have k0 : kst = 1 := Nat.le_antisymm h0 l0
        subst k0
        clear l0 h0
        have e61 : a.tmps[61]?.getD undef = .agg #[.slice e1 k1 f1, .slice e2 k2 f2, .slice e3 k3 f3, .int .i64 xk, .int .i64 xi, .string xn, .string xv, .string xy] := (ev a 61).symm.trans (hD _ (Array.mem_of_getElem? (i := 0) rfl) rfl)
        have e62 : a.tmps[62]?.getD undef = .agg #[.slice g1 j1 h1, .slice g2 j2 h2, .slice g3 j3 h3, .int .i64 xk, .int .i64 xi, .string xn, .string xv, .string xy] := (ev a 62).symm.trans (hD _ (Array.mem_of_getElem? (i := 1) rfl) rfl)
        clear hF hD
        refine ⟨_, _, by (go_simp; first | done | rfl | exact ⟨rfl, rfl⟩), ?_⟩
        refine (HSW.out W (prA.upd A0)).mono ?_
        rintro e w2 ⟨rfl, hu⟩
        exact ⟨rfl, prA.next A0 hu⟩
      · refine chain_is _ (.inr ⟨_, _, _, rfl, Array.mem_of_getElem? (i := 1) rfl, rfl, rfl, fun _ h => h⟩) ⟨_, rfl⟩ (by kernel_rfl) rfl ?_
        intro a W kst l0 h0 A0 hF hD
        have k0 : kst = 1 := Nat.le_antisymm h0 l0
        subst k0
        clear l0 h0
        have e63 : a.tmps[63]?.getD undef = .bool true := (ev a 63).symm.trans (hD _ (Array.mem_of_getElem? (i := 0) rfl) rfl)
        clear hF hD
        go_simp
      · refine chain_is _ (.inl rfl) ⟨_, rfl⟩ (by kernel_rfl) rfl ?_
        intro a W kst l0 h0 A0 hF hD
        have k0 : kst = 1 := Nat.le_antisymm h0 l0
        subst k0
        clear l0 h0
        have e59 : a.tmps[59]?.getD undef = .bool false := (ev a 59).symm.trans (hD _ (Array.mem_of_getElem? (i := 0) rfl) rfl)
        have e64 : a.tmps[64]?.getD undef = .bool false := (ev a 64).symm.trans (hD _ (Array.mem_of_getElem? (i := 1) rfl) rfl)
        clear hF hD
        go_simp
      · refine chain_is _ (.inl rfl) ⟨_, rfl⟩ (by kernel_rfl) rfl ?_
        intro a W kst l0 h0 A0 hF hD
        have k0 : kst = 1 := Nat.le_antisymm h0 l0
        subst k0
        clear l0 h0
        have e65 : a.tmps[65]?.getD undef = .bool false := (ev a 65).symm.trans (hD _ (Array.mem_of_getElem? (i := 0) rfl) rfl)
        clear hF hD
        go_simp
      · refine chain_is _ (.inr ⟨_, _, _, rfl, Array.mem_of_getElem? (i := 0) rfl, rfl, rfl, fun _ h => h⟩) ⟨_, rfl⟩ (by kernel_rfl) rfl ?_
        intro a W kst l0 h0 A0 hF hD
        have k0 : kst = 1 := Nat.le_antisymm h0 l0
        subst k0
        clear l0 h0
        have e15 : a.tmps[15]?.getD undef = _ := (ev a 15).symm.trans (hF 15 (by kernel_rfl))
        clear hF hD
        go_simp
      · refine chain_is _ (.inr ⟨_, _, _, rfl, Array.mem_of_getElem? (i := 0) rfl, rfl, rfl, fun _ h => h⟩) ⟨_, rfl⟩ (by kernel_rfl) rfl ?_
        intro a W kst l0 h0 A0 hF hD
        have k0 : kst = 1 := Nat.le_antisymm h0 l0
        subst k0
        clear l0 h0
        have e9 : a.tmps[9]?.getD undef = _ := (ev a 9).symm.trans (hF 9 (by kernel_rfl))
        clear hF hD
        go_simp
      · refine chain_is _ (.inr ⟨_, _, _, rfl, Array.mem_of_getElem? (i := 2) rfl, rfl, rfl, fun _ h => h⟩) ⟨_, rfl⟩ (by kernel_rfl) rfl ?_
        intro a W kst l0 h0 A0 hF hD
        have k0 : kst = 1 := Nat.le_antisymm h0 l0
        subst k0
        clear l0 h0
        have e67 : a.tmps[67]?.getD undef = .bool lk := (ev a 67).symm.trans (hD _ (Array.mem_of_getElem? (i := 0) rfl) rfl)
        have e68 : a.tmps[68]?.getD undef = .bool lk := (ev a 68).symm.trans (hD _ (Array.mem_of_getElem? (i := 1) rfl) rfl)
        clear hF hD
        go_simp
      · refine chain_is _ (.inl rfl) ⟨_, rfl⟩ (by kernel_rfl) rfl ?_
        intro a W kst l0 h0 A0 hF hD
        have k0 : kst = 1 := Nat.le_antisymm h0 l0
        subst k0
        clear l0 h0
        have e66 : a.tmps[66]?.getD undef = .bool false := (ev a 66).symm.trans (hD _ (Array.mem_of_getElem? (i := 0) rfl) rfl)
        have e69 : a.tmps[69]?.getD undef = .bool false := (ev a 69).symm.trans (hD _ (Array.mem_of_getElem? (i := 1) rfl) rfl)
        clear hF hD
        go_simp
      · refine chain_is _ (.inl rfl) ⟨_, rfl⟩ (by kernel_rfl) rfl ?_
        intro a W kst l0 h0 A0 hF hD
        have k0 : kst = 1 := Nat.le_antisymm h0 l0
        subst k0
        clear l0 h0
        have e70 : a.tmps[70]?.getD undef = .bool false := (ev a 70).symm.trans (hD _ (Array.mem_of_getElem? (i := 0) rfl) rfl)
        clear hF hD
        go_simp
      · refine chain_is _ (.inr ⟨_, _, _, rfl, Array.mem_of_getElem? (i := 0) rfl, rfl, rfl, fun _ h => h⟩) ⟨_, rfl⟩ (by kernel_rfl) rfl ?_
        intro a W kst l0 h0 A0 hF hD
        have k0 : kst = 1 := Nat.le_antisymm h0 l0
        subst k0
        clear l0 h0
        have e16 : a.tmps[16]?.getD undef = _ := (ev a 16).symm.trans (hF 16 (by kernel_rfl))
        clear hF hD
        go_simp
      · refine chain_is _ (.inr ⟨_, _, _, rfl, Array.mem_of_getElem? (i := 0) rfl, rfl, rfl, fun _ h => h⟩) ⟨_, rfl⟩ (by kernel_rfl) rfl ?_
        intro a W kst l0 h0 A0 hF hD
        have k0 : kst = 1 := Nat.le_antisymm h0 l0
        subst k0
        clear l0 h0
        have e10 : a.tmps[10]?.getD undef = _ := (ev a 10).symm.trans (hF 10 (by kernel_rfl))
        clear hF hD
        go_simp
      · refine chain_is _ (.inr ⟨_, _, _, rfl, Array.mem_of_getElem? (i := 2) rfl, rfl, rfl, fun _ h => h⟩) ⟨_, rfl⟩ (by kernel_rfl) rfl ?_
        intro a W kst l0 h0 A0 hF hD
        have k0 : kst = 1 := Nat.le_antisymm h0 l0
        subst k0
        clear l0 h0
        have e72 : a.tmps[72]?.getD undef = .bool cl := (ev a 72).symm.trans (hD _ (Array.mem_of_getElem? (i := 0) rfl) rfl)
        have e73 : a.tmps[73]?.getD undef = .bool cl := (ev a 73).symm.trans (hD _ (Array.mem_of_getElem? (i := 1) rfl) rfl)
        clear hF hD
        go_simp
      · refine chain_is _ (.inl rfl) ⟨_, rfl⟩ (by kernel_rfl) rfl ?_
        intro a W kst l0 h0 A0 hF hD
        have k0 : kst = 1 := Nat.le_antisymm h0 l0
        subst k0
        clear l0 h0
        have e71 : a.tmps[71]?.getD undef = .bool false := (ev a 71).symm.trans (hD _ (Array.mem_of_getElem? (i := 0) rfl) rfl)
        have e74 : a.tmps[74]?.getD undef = .bool false := (ev a 74).symm.trans (hD _ (Array.mem_of_getElem? (i := 1) rfl) rfl)
        clear hF hD
        go_simp
      · refine chain_is _ (.inl rfl) ⟨_, rfl⟩ (by kernel_rfl) rfl ?_
        intro a W kst l0 h0 A0 hF hD
        have k0 : kst = 1 := Nat.le_antisymm h0 l0
        subst k0
        clear l0 h0
        have e75 : a.tmps[75]?.getD undef = .bool false := (ev a 75).symm.trans (hD _ (Array.mem_of_getElem? (i := 0) rfl) rfl)
        clear hF hD
        go_simp
      · refine chain_is _ (.inr ⟨_, _, _, rfl, Array.mem_of_getElem? (i := 0) rfl, rfl, rfl, fun _ h => h⟩) ⟨_, rfl⟩ (by kernel_rfl) rfl ?_
        intro a W kst l0 h0 A0 hF hD
        have k0 : kst = 1 := Nat.le_antisymm h0 l0
        subst k0
        clear l0 h0
        have e3 : a.tmps[3]?.getD undef = _ := (ev a 3).symm.trans (hF 3 (by kernel_rfl))
        clear hF hD
        obtain ⟨x0, x1, x2, x3, x4, x5, x6, x7⟩ := px8 (HPC.out W (prA.upd A0)).1
        go_simp
      · refine chain_is _ (.inr ⟨_, _, _, rfl, Array.mem_of_getElem? (i := 0) rfl, rfl, rfl, fun _ h => h⟩) ⟨_, rfl⟩ (by kernel_rfl) rfl ?_
        intro a W kst l0 h0 A0 hF hD
        have k0 : kst = 1 := Nat.le_antisymm h0 l0
        subst k0
        clear l0 h0
        have e4 : a.tmps[4]?.getD undef = _ := (ev a 4).symm.trans (hF 4 (by kernel_rfl))
        clear hF hD
        obtain ⟨x0, x1, x2, x3, x4, x5, x6, x7⟩ := px8 (HPC.out W (prA.upd A0)).2.1
        go_simp
      · refine chain_beside _ (.inr ⟨_, _, _, rfl, Array.mem_of_getElem? (i := 2) rfl, rfl, rfl, fun _ h => h⟩) ⟨_, rfl⟩ (by kernel_rfl) rfl ?_
        intro a W kst l0 h0 A0 hF hD
        have k0 : kst = 1 := Nat.le_antisymm h0 l0
        subst k0
        clear l0 h0
        have e77 : a.tmps[77]?.getD undef = .agg #[.slice a1 n1 c1, .slice a2 n2 c2, .slice a3 n3 c3, .int .i64 pk, .int .i64 pi, .string pn, .string pv, .string py] := (ev a 77).symm.trans (hD _ (Array.mem_of_getElem? (i := 0) rfl) rfl)
        have e78 : a.tmps[78]?.getD undef = .agg #[.slice b1 m1 d1, .slice b2 m2 d2, .slice b3 m3 d3, .int .i64 qk, .int .i64 qi, .string qn, .string qv, .string qy] := (ev a 78).symm.trans (hD _ (Array.mem_of_getElem? (i := 1) rfl) rfl)
        clear hF hD
        refine ⟨_, _, by (go_simp; first | done | rfl | exact ⟨rfl, rfl⟩), ?_⟩
        refine (Q5.out _ (HUW.out W (prA.upd A0))).mono ?_
        rintro e w2 ⟨rfl, hu⟩
        exact ⟨rfl, prA.next A0 hu⟩
      · refine chain_is _ (.inr ⟨_, _, _, rfl, Array.mem_of_getElem? (i := 0) rfl, rfl, rfl, fun _ h => h⟩) ⟨_, rfl⟩ (by kernel_rfl) rfl ?_
        intro a W kst l0 h0 A0 hF hD
        have k0 : kst = 1 := Nat.le_antisymm h0 l0
        subst k0
        clear l0 h0
        have e3 : a.tmps[3]?.getD undef = _ := (ev a 3).symm.trans (hF 3 (by kernel_rfl))
        clear hF hD
        obtain ⟨x0, x1, x2, x3, x4, x5, x6, x7⟩ := px8 (HPC.out W (prA.upd A0)).1
        go_simp
      · refine chain_beside _ (.inr ⟨_, _, _, rfl, Array.mem_of_getElem? (i := 2) rfl, rfl, rfl, fun _ h => h⟩) ⟨_, rfl⟩ (by kernel_rfl) rfl ?_
        intro a W kst l0 h0 A0 hF hD
        have k0 : kst = 1 := Nat.le_antisymm h0 l0
        subst k0
        clear l0 h0
        have e80 : a.tmps[80]?.getD undef = .agg #[.slice a1 n1 c1, .slice a2 n2 c2, .slice a3 n3 c3, .int .i64 pk, .int .i64 pi, .string pn, .string pv, .string py] := (ev a 80).symm.trans (hD _ (Array.mem_of_getElem? (i := 0) rfl) rfl)
        clear hF hD
        refine ⟨_, _, by (go_simp; first | done | rfl | exact ⟨rfl, rfl⟩), ?_⟩
        refine (dplain_any _ _ _ _ _ _ _ _ _ _ _ _ _ _ _).mono ?_
        rintro e w2 ⟨rfl, hu⟩
        exact ⟨rfl, prA.next A0 hu⟩
      · refine chain_is _ (.inr ⟨_, _, _, rfl, Array.mem_of_getElem? (i := 0) rfl, rfl, rfl, fun _ h => h⟩) ⟨_, rfl⟩ (by kernel_rfl) rfl ?_
        intro a W kst l0 h0 A0 hF hD
        have k0 : kst = 1 := Nat.le_antisymm h0 l0
        subst k0
        clear l0 h0
        have e4 : a.tmps[4]?.getD undef = _ := (ev a 4).symm.trans (hF 4 (by kernel_rfl))
        clear hF hD
        obtain ⟨x0, x1, x2, x3, x4, x5, x6, x7⟩ := px8 (HPC.out W (prA.upd A0)).2.1
        go_simp
      · refine chain_beside _ (.inr ⟨_, _, _, rfl, Array.mem_of_getElem? (i := 2) rfl, rfl, rfl, fun _ h => h⟩) ⟨_, rfl⟩ (by kernel_rfl) rfl ?_
        intro a W kst l0 h0 A0 hF hD
        have k0 : kst = 1 := Nat.le_antisymm h0 l0
        subst k0
        clear l0 h0
        have e82 : a.tmps[82]?.getD undef = .agg #[.slice b1 m1 d1, .slice b2 m2 d2, .slice b3 m3 d3, .int .i64 qk, .int .i64 qi, .string qn, .string qv, .string qy] := (ev a 82).symm.trans (hD _ (Array.mem_of_getElem? (i := 0) rfl) rfl)
        clear hF hD
        refine ⟨_, _, by (go_simp; first | done | rfl | exact ⟨rfl, rfl⟩), ?_⟩
        refine (dplain_any _ _ _ _ _ _ _ _ _ _ _ _ _ _ _).mono ?_
        rintro e w2 ⟨rfl, hu⟩
        exact ⟨rfl, prA.next A0 hu⟩
      · refine chain_beside _ (.inr ⟨_, _, _, rfl, Array.mem_of_getElem? (i := 3) rfl, rfl, rfl, fun _ h => h⟩) ⟨_, rfl⟩ (by kernel_rfl) rfl ?_
        intro a W kst l0 h0 A0 hF hD
        have k0 : kst = 1 := Nat.le_antisymm h0 l0
        subst k0
        clear l0 h0
        have e81 : a.tmps[81]?.getD undef = .agg #[.slice a1 n1 c1, .slice a2 n2 c2, .slice a3 n3 c3, .int .i64 pk, .int .i64 pi, .string pn, .string pv, .string py] := (ev a 81).symm.trans (hD _ (Array.mem_of_getElem? (i := 0) rfl) rfl)
        have e83 : a.tmps[83]?.getD undef = .agg #[.slice b1 m1 d1, .slice b2 m2 d2, .slice b3 m3 d3, .int .i64 qk, .int .i64 qi, .string qn, .string qv, .string qy] := (ev a 83).symm.trans (hD _ (Array.mem_of_getElem? (i := 1) rfl) rfl)
        clear hF hD
        refine ⟨_, _, by (go_simp; first | done | rfl | exact ⟨rfl, rfl⟩), ?_⟩
        refine (Q6.out _ (HUW.out W (prA.upd A0))).mono ?_
        rintro e w2 ⟨rfl, hu⟩
        exact ⟨rfl, prA.next A0 hu⟩
      · refine chain_is _ (.inr ⟨_, _, _, rfl, Array.mem_of_getElem? (i := 2) rfl, rfl, rfl, fun _ h => h⟩) ⟨_, rfl⟩ (by kernel_rfl) rfl ?_
        intro a W kst l0 h0 A0 hF hD
        have k0 : kst = 1 := Nat.le_antisymm h0 l0
        subst k0
        clear l0 h0
        have e79 : a.tmps[79]?.getD undef = .bool spq := (ev a 79).symm.trans (hD _ (Array.mem_of_getElem? (i := 0) rfl) rfl)
        have e84 : a.tmps[84]?.getD undef = .bool spq := (ev a 84).symm.trans (hD _ (Array.mem_of_getElem? (i := 1) rfl) rfl)
        clear hF hD
        go_simp
      · refine chain_is _ (.inl rfl) ⟨_, rfl⟩ (by kernel_rfl) rfl ?_
        intro a W kst l0 h0 A0 hF hD
        have k0 : kst = 1 := Nat.le_antisymm h0 l0
        subst k0
        clear l0 h0
        have e76 : a.tmps[76]?.getD undef = .bool false := (ev a 76).symm.trans (hD _ (Array.mem_of_getElem? (i := 0) rfl) rfl)
        have e85 : a.tmps[85]?.getD undef = .bool false := (ev a 85).symm.trans (hD _ (Array.mem_of_getElem? (i := 1) rfl) rfl)
        clear hF hD
        go_simp
      · refine chain_is _ (.inl rfl) ⟨_, rfl⟩ (by kernel_rfl) rfl ?_
        intro a W kst l0 h0 A0 hF hD
        have k0 : kst = 1 := Nat.le_antisymm h0 l0
        subst k0
        clear l0 h0
        have e86 : a.tmps[86]?.getD undef = .bool false := (ev a 86).symm.trans (hD _ (Array.mem_of_getElem? (i := 0) rfl) rfl)
        clear hF hD
        go_simp
      · refine chain_is _ (.inr ⟨_, _, _, rfl, Array.mem_of_getElem? (i := 0) rfl, rfl, rfl, fun _ h => h⟩) ⟨_, rfl⟩ (by kernel_rfl) rfl ?_
        intro a W kst l0 h0 A0 hF hD
        have k0 : kst = 1 := Nat.le_antisymm h0 l0
        subst k0
        clear l0 h0
        have e14 : a.tmps[14]?.getD undef = _ := (ev a 14).symm.trans (hF 14 (by kernel_rfl))
        clear hF hD
        obtain ⟨x0, x1, x2, x3, x4, x5, x6, x7⟩ := px8 (HPC.out W (prA.upd A0)).2.2.1
        go_simp
      · refine chain_is _ (.inr ⟨_, _, _, rfl, Array.mem_of_getElem? (i := 0) rfl, rfl, rfl, fun _ h => h⟩) ⟨_, rfl⟩ (by kernel_rfl) rfl ?_
        intro a W kst l0 h0 A0 hF hD
        have k0 : kst = 1 := Nat.le_antisymm h0 l0
        subst k0
        clear l0 h0
        have e14 : a.tmps[14]?.getD undef = _ := (ev a 14).symm.trans (hF 14 (by kernel_rfl))
        clear hF hD
        obtain ⟨x0, x1, x2, x3, x4, x5, x6, x7⟩ := px8 (HPC.out W (prA.upd A0)).2.2.1
        go_simp
      · refine chain_beside _ (.inr ⟨_, _, _, rfl, Array.mem_of_getElem? (i := 2) rfl, rfl, rfl, fun _ h => h⟩) ⟨_, rfl⟩ (by kernel_rfl) rfl ?_
        intro a W kst l0 h0 A0 hF hD
        have k0 : kst = 1 := Nat.le_antisymm h0 l0
        subst k0
        clear l0 h0
        have e88 : a.tmps[88]?.getD undef = .agg #[.slice e1 k1 f1, .slice e2 k2 f2, .slice e3 k3 f3, .int .i64 xk, .int .i64 xi, .string xn, .string xv, .string xy] := (ev a 88).symm.trans (hD _ (Array.mem_of_getElem? (i := 0) rfl) rfl)
        have e89 : a.tmps[89]?.getD undef = .agg #[.slice e1 k1 f1, .slice e2 k2 f2, .slice e3 k3 f3, .int .i64 xk, .int .i64 xi, .string xn, .string xv, .string xy] := (ev a 89).symm.trans (hD _ (Array.mem_of_getElem? (i := 1) rfl) rfl)
        clear hF hD
        refine ⟨_, _, by (go_simp; first | done | rfl | exact ⟨rfl, rfl⟩), ?_⟩
        refine (HSX.out W (prA.upd A0)).mono ?_
        rintro e w2 ⟨rfl, hu⟩
        exact ⟨rfl, prA.next A0 hu⟩
      · refine chain_is _ (.inr ⟨_, _, _, rfl, Array.mem_of_getElem? (i := 1) rfl, rfl, rfl, fun _ h => h⟩) ⟨_, rfl⟩ (by kernel_rfl) rfl ?_
        intro a W kst l0 h0 A0 hF hD
        have k0 : kst = 1 := Nat.le_antisymm h0 l0
        subst k0
        clear l0 h0
        have e90 : a.tmps[90]?.getD undef = .bool true := (ev a 90).symm.trans (hD _ (Array.mem_of_getElem? (i := 0) rfl) rfl)
        clear hF hD
        go_simp
      · refine chain_is _ (.inl rfl) ⟨_, rfl⟩ (by kernel_rfl) rfl ?_
        intro a W kst l0 h0 A0 hF hD
        have k0 : kst = 1 := Nat.le_antisymm h0 l0
        subst k0
        clear l0 h0
        have e87 : a.tmps[87]?.getD undef = .bool false := (ev a 87).symm.trans (hD _ (Array.mem_of_getElem? (i := 0) rfl) rfl)
        have e91 : a.tmps[91]?.getD undef = .bool false := (ev a 91).symm.trans (hD _ (Array.mem_of_getElem? (i := 1) rfl) rfl)
        clear hF hD
        go_simp
      · refine chain_is _ (.inl rfl) ⟨_, rfl⟩ (by kernel_rfl) rfl ?_
        intro a W kst l0 h0 A0 hF hD
        have k0 : kst = 1 := Nat.le_antisymm h0 l0
        subst k0
        clear l0 h0
        have e92 : a.tmps[92]?.getD undef = .bool false := (ev a 92).symm.trans (hD _ (Array.mem_of_getElem? (i := 0) rfl) rfl)
        clear hF hD
        go_simp
      · refine chain_is _ (.inr ⟨_, _, _, rfl, Array.mem_of_getElem? (i := 0) rfl, rfl, rfl, fun _ h => h⟩) ⟨_, rfl⟩ (by kernel_rfl) rfl ?_
        intro a W kst l0 h0 A0 hF hD
        have k0 : kst = 1 := Nat.le_antisymm h0 l0
        subst k0
        clear l0 h0
        have e12 : a.tmps[12]?.getD undef = _ := (ev a 12).symm.trans (hF 12 (by kernel_rfl))
        clear hF hD
        go_simp
      · refine chain_is _ (.inr ⟨_, _, _, rfl, Array.mem_of_getElem? (i := 0) rfl, rfl, rfl, fun _ h => h⟩) ⟨_, rfl⟩ (by kernel_rfl) rfl ?_
        intro a W kst l0 h0 A0 hF hD
        have k0 : kst = 1 := Nat.le_antisymm h0 l0
        subst k0
        clear l0 h0
        have e2 : a.tmps[2]?.getD undef = _ := (ev a 2).symm.trans (hF 2 (by kernel_rfl))
        clear hF hD
        go_simp
      · refine chain_beside _ (.inr ⟨_, _, _, rfl, Array.mem_of_getElem? (i := 2) rfl, rfl, rfl, fun _ h => h⟩) ⟨_, rfl⟩ (by kernel_rfl) rfl ?_
        intro a W kst l0 h0 A0 hF hD
        have k0 : kst = 1 := Nat.le_antisymm h0 l0
        subst k0
        clear l0 h0
        have e94 : a.tmps[94]?.getD undef = .slice (some ⟨g7, of7, none⟩) l.length cp7 := (ev a 94).symm.trans (hD _ (Array.mem_of_getElem? (i := 0) rfl) rfl)
        have e95 : a.tmps[95]?.getD undef = .slice av nv cv := (ev a 95).symm.trans (hD _ (Array.mem_of_getElem? (i := 1) rfl) rfl)
        clear hF hD
        refine ⟨_, _, by (go_simp; first | done | rfl | exact ⟨rfl, rfl⟩), ?_⟩
        refine (HST.out W (prA.upd A0)).mono ?_
        rintro e w2 ⟨rfl, hu⟩
        exact ⟨rfl, prA.next A0 hu⟩
      · refine chain_is _ (.inr ⟨_, _, _, rfl, Array.mem_of_getElem? (i := 1) rfl, rfl, rfl, fun _ h => h⟩) ⟨_, rfl⟩ (by kernel_rfl) rfl ?_
        intro a W kst l0 h0 A0 hF hD
        have k0 : kst = 1 := Nat.le_antisymm h0 l0
        subst k0
        clear l0 h0
        have e96 : a.tmps[96]?.getD undef = .bool true := (ev a 96).symm.trans (hD _ (Array.mem_of_getElem? (i := 0) rfl) rfl)
        clear hF hD
        go_simp
      · refine chain_is _ (.inl rfl) ⟨_, rfl⟩ (by kernel_rfl) rfl ?_
        intro a W kst l0 h0 A0 hF hD
        have k0 : kst = 1 := Nat.le_antisymm h0 l0
        subst k0
        clear l0 h0
        have e93 : a.tmps[93]?.getD undef = .bool false := (ev a 93).symm.trans (hD _ (Array.mem_of_getElem? (i := 0) rfl) rfl)
        have e97 : a.tmps[97]?.getD undef = .bool false := (ev a 97).symm.trans (hD _ (Array.mem_of_getElem? (i := 1) rfl) rfl)
        clear hF hD
        go_simp
    intro vals W hv hA
    have v0 : vals 0 = .slice aa B.length ca := hv 0 (by decide)
    have v1 : vals 1 = .agg #[.slice a1 n1 c1, .slice a2 n2 c2, .slice a3 n3 c3, .int .i64 pk, .int .i64 pi, .string pn, .string pv, .string py] := hv 1 (by decide)
    have v2 : vals 2 = .agg #[.slice a1 n1 c1, .slice a2 n2 c2, .slice a3 n3 c3, .int .i64 pk, .int .i64 pi, .string pn, .string pv, .string py] := hv 2 (by decide)
    have v4 : vals 4 = .bool true := hv 4 (by decide)
    have v5 : vals 5 = .bool false := hv 5 (by decide)
    have v6 : vals 6 = .bool false := hv 6 (by decide)
    have v7 : vals 7 = .agg #[.slice e1 k1 f1, .slice e2 k2 f2, .slice e3 k3 f3, .int .i64 xk, .int .i64 xi, .string xn, .string xv, .string xy] := hv 7 (by decide)
    have v8 : vals 8 = .agg #[.slice e1 k1 f1, .slice e2 k2 f2, .slice e3 k3 f3, .int .i64 xk, .int .i64 xi, .string xn, .string xv, .string xy] := hv 8 (by decide)
    have v9 : vals 9 = .agg #[.slice g1 j1 h1, .slice g2 j2 h2, .slice g3 j3 h3, .int .i64 xk, .int .i64 xi, .string xn, .string xv, .string xy] := hv 9 (by decide)
    have v10 : vals 10 = .bool true := hv 10 (by decide)
    have v11 : vals 11 = .bool false := hv 11 (by decide)
    have v12 : vals 12 = .bool false := hv 12 (by decide)
    have v13 : vals 13 = .bool false := hv 13 (by decide)
    have v14 : vals 14 = .bool lk := hv 14 (by decide)
    have v15 : vals 15 = .bool lk := hv 15 (by decide)
    have v16 : vals 16 = .bool false := hv 16 (by decide)
    have v17 : vals 17 = .bool false := hv 17 (by decide)
    have v18 : vals 18 = .bool false := hv 18 (by decide)
    have v19 : vals 19 = .bool cl := hv 19 (by decide)
    have v20 : vals 20 = .bool cl := hv 20 (by decide)
    have v21 : vals 21 = .bool false := hv 21 (by decide)
    have v22 : vals 22 = .bool false := hv 22 (by decide)
    have v23 : vals 23 = .bool false := hv 23 (by decide)
    have v24 : vals 24 = .agg #[.slice a1 n1 c1, .slice a2 n2 c2, .slice a3 n3 c3, .int .i64 pk, .int .i64 pi, .string pn, .string pv, .string py] := hv 24 (by decide)
    have v25 : vals 25 = .agg #[.slice b1 m1 d1, .slice b2 m2 d2, .slice b3 m3 d3, .int .i64 qk, .int .i64 qi, .string qn, .string qv, .string qy] := hv 25 (by decide)
    have v26 : vals 26 = .bool spq := hv 26 (by decide)
    have v27 : vals 27 = .agg #[.slice a1 n1 c1, .slice a2 n2 c2, .slice a3 n3 c3, .int .i64 pk, .int .i64 pi, .string pn, .string pv, .string py] := hv 27 (by decide)
    have v28 : vals 28 = .agg #[.slice a1 n1 c1, .slice a2 n2 c2, .slice a3 n3 c3, .int .i64 pk, .int .i64 pi, .string pn, .string pv, .string py] := hv 28 (by decide)
    have v29 : vals 29 = .agg #[.slice b1 m1 d1, .slice b2 m2 d2, .slice b3 m3 d3, .int .i64 qk, .int .i64 qi, .string qn, .string qv, .string qy] := hv 29 (by decide)
    have v30 : vals 30 = .agg #[.slice b1 m1 d1, .slice b2 m2 d2, .slice b3 m3 d3, .int .i64 qk, .int .i64 qi, .string qn, .string qv, .string qy] := hv 30 (by decide)
    have v31 : vals 31 = .bool spq := hv 31 (by decide)
    have v32 : vals 32 = .bool false := hv 32 (by decide)
    have v33 : vals 33 = .bool false := hv 33 (by decide)
    have v34 : vals 34 = .bool false := hv 34 (by decide)
    have v35 : vals 35 = .agg #[.slice e1 k1 f1, .slice e2 k2 f2, .slice e3 k3 f3, .int .i64 xk, .int .i64 xi, .string xn, .string xv, .string xy] := hv 35 (by decide)
    have v36 : vals 36 = .agg #[.slice e1 k1 f1, .slice e2 k2 f2, .slice e3 k3 f3, .int .i64 xk, .int .i64 xi, .string xn, .string xv, .string xy] := hv 36 (by decide)
    have v37 : vals 37 = .bool true := hv 37 (by decide)
    have v38 : vals 38 = .bool false := hv 38 (by decide)
    have v39 : vals 39 = .bool false := hv 39 (by decide)
    have v40 : vals 40 = .bool false := hv 40 (by decide)
    have v41 : vals 41 = .slice (some ⟨g7, of7, none⟩) l.length cp7 := hv 41 (by decide)
    have v42 : vals 42 = .slice av nv cv := hv 42 (by decide)
    have v43 : vals 43 = .bool true := hv 43 (by decide)
    have v44 : vals 44 = .bool false := hv 44 (by decide)
    have v45 : vals 45 = .bool false := hv 45 (by decide)
    clear hv
    obtain ⟨hA1, -⟩ := hA
    simp only [putAll, Act.put, Nat.zero_add, Nat.reduceAdd, v0, v1, v2, v4, v5, v6, v7, v8, v9, v10, v11, v12, v13, v14, v15, v16, v17, v18, v19, v20, v21, v22, v23, v24, v25, v26, v27, v28, v29, v30, v31, v32, v33, v34, v35, v36, v37, v38, v39, v40, v41, v42, v43, v44, v45, List.setIfInBounds_toArray, List.set_cons_zero, List.set_cons_succ]
    clear v0 v1 v2 v4 v5 v6 v7 v8 v9 v10 v11 v12 v13 v14 v15 v16 v17 v18 v19 v20 v21 v22 v23 v24 v25 v26 v27 v28 v29 v30 v31 v32 v33 v34 v35 v36 v37 v38 v39 v40 v41 v42 v43 v44 v45
    have HU11 := Lib.hid hA1
    clear hA1 HPC HUW HSX HSW HSA HST HV10
    have HB11 := Lib.hid (HBK.out.upd (HUC.out.trans HU11.out))
    have HA11 := Lib.hid (HA10.out.updD HU11.out)
    have HC1 := Lib.hid (HF1.out.updD HU11.out)
    have HC2 := Lib.hid (HF2.out.updD HU11.out)
    have HC3 := Lib.hid (HF3.out.updD HU11.out)
    have HX11 := Lib.hid (HX10.out.upd HU11.out (by simp))
    have HW11 := Lib.hid (HBW.out.upd (HUC.out.trans HU11.out) (by simp))
    have HT11 := Lib.hid (And.intro (HTW.out.1.keep (HUC.out.trans HU11.out)) (And.intro (HTW.out.2.1.keep (HUC.out.trans HU11.out)) (HTW.out.2.2.keep (HUC.out.trans HU11.out))))
    have HLO : Hid (w3.heap.size ≤ wr.heap.size) := HBK.out.ups.size
    have HLA : Hid (∀ d ∈ RA, ∀ y ∈ d.own, y < wr.heap.size) := HBK.out.ltAvps
    have HLP : Hid (∀ d ∈ RO, ∀ y ∈ d.own, y < wr.heap.size) := HBK.out.ltOptions
    clear HA10 HF1 HF2 HF3 HX10 HBW HTW HUC HBK HU11 HUR
    go_wp2_with fail
    refine (HB11.out.addAvps ⟨.slice aa B.length ca, B, owna⟩ HA11.out (by have := HBL.out; show B.length ≤ _; omega) (fun y hy => Nat.le_trans HLO.out (HFA.out y hy)) (fun d hd y hy hy2 => by have h1 := HLA.out d hd y hy; have h2 := HFA.out y hy2; omega) (by simp) (by simp)).mono ?_
    rintro e w12 ⟨rfl, hb12, ht12⟩
    have HB12 := Lib.hid hb12
    have HD1 := Lib.hid (HC1.out.updT ht12 (by decide))
    have HD2 := Lib.hid (HC2.out.updT ht12 (by decide))
    have HD3 := Lib.hid (HC3.out.updT ht12 (by decide))
    have HX12 := Lib.hid (HX11.out.updT ht12 (by decide))
    have HW12 := Lib.hid (HW11.out.updT ht12 (by decide))
    have HT12 := Lib.hid (And.intro (HT11.out.1.updT ht12 (by decide)) (And.intro (HT11.out.2.1.updT ht12 (by decide)) (HT11.out.2.2.updT ht12 (by decide))))
    clear hb12 ht12 HB11 HA11 HC1 HC2 HC3 HX11 HW11 HT11 HFA HLA
    obtain ⟨x0, x1, x2, x3, x4, x5, x6, x7⟩ := px8 HX12.out
    go_wp2_with fail
    refine (HB12.out.addOptions ⟨.slice e1 k1 f1, xf, q1⟩ HD1.out (by have := HXL.out; show xf.length ≤ _; omega) (fun y hy => Nat.le_trans HLO.out (HI1.out y hy)) (fun d hd y hy hy2 => by have h1 := HLP.out d hd y hy; have h2 := HI1.out y hy2; omega) (by simp) (by simp)).mono ?_
    rintro e w13 ⟨rfl, hb, ht⟩
    have HB13 := Lib.hid hb
    have HD2 := Lib.hid (HD2.out.updT ht (by decide))
    have HD3 := Lib.hid (HD3.out.updT ht (by decide))
    have HX13 := Lib.hid (HX12.out.updT ht (by decide))
    have HW13 := Lib.hid (HW12.out.updT ht (by decide))
    have HT13 := Lib.hid (And.intro (HT12.out.1.updT ht (by decide)) (And.intro (HT12.out.2.1.updT ht (by decide)) (HT12.out.2.2.updT ht (by decide))))
    clear hb ht
    clear x0 x1 x2 x3 x4 x5 x6 x7
    obtain ⟨x0, x1, x2, x3, x4, x5, x6, x7⟩ := px8 HX13.out
    go_wp2_with fail
    refine (HB13.out.addOptions ⟨.slice e2 k2 f2, xt, q2⟩ HD2.out (by have := HXL.out; show xt.length ≤ _; omega) (fun y hy => Nat.le_trans HLO.out (HI2.out y hy)) (fun d hd y hy hy2 => (mem_add hd).elim (fun hd => by have h1 := HLP.out d hd y hy; have h2 := HI2.out y hy2; omega) (fun e => by subst e; exact HN.out.1 y hy hy2)) (by simp) (by simp)).mono ?_
    rintro e w14 ⟨rfl, hb, ht⟩
    have HB14 := Lib.hid hb
    have HD3 := Lib.hid (HD3.out.updT ht (by decide))
    have HX14 := Lib.hid (HX13.out.updT ht (by decide))
    have HW14 := Lib.hid (HW13.out.updT ht (by decide))
    have HT14 := Lib.hid (And.intro (HT13.out.1.updT ht (by decide)) (And.intro (HT13.out.2.1.updT ht (by decide)) (HT13.out.2.2.updT ht (by decide))))
    clear hb ht
    clear x0 x1 x2 x3 x4 x5 x6 x7
    obtain ⟨x0, x1, x2, x3, x4, x5, x6, x7⟩ := px8 HX14.out
    go_wp2_with fail
    refine (HB14.out.addOptions ⟨.slice e3 k3 f3, xr, q3⟩ HD3.out (by have := HXL.out; show xr.length ≤ _; omega) (fun y hy => Nat.le_trans HLO.out (HI3.out y hy)) (fun d hd y hy hy2 => (mem_add hd).elim (fun hd => (mem_add hd).elim (fun hd => by have h1 := HLP.out d hd y hy; have h2 := HI3.out y hy2; omega) (fun e => by subst e; exact HN.out.2.1 y hy hy2)) (fun e => by subst e; exact HN.out.2.2 y hy hy2)) (by simp) (by simp)).mono ?_
    rintro e w15 ⟨rfl, hb, ht⟩
    have HB15 := Lib.hid hb
    have HX15 := Lib.hid (HX14.out.updT ht (by decide))
    have HW15 := Lib.hid (HW14.out.updT ht (by decide))
    have HT15 := Lib.hid (And.intro (HT14.out.1.updT ht (by decide)) (And.intro (HT14.out.2.1.updT ht (by decide)) (HT14.out.2.2.updT ht (by decide))))
    clear hb ht
    clear x0 x1 x2 x3 x4 x5 x6 x7
    obtain ⟨x0, x1, x2, x3, x4, x5, x6, x7⟩ := px8 HX15.out
    go_wp2_with fail
    go_roundg (2 - (k + 1))
    case rel => exact ⟨k + 1, _, _, by omega, by go_num, HB15.out, HW15.out, HT15.out.1, HT15.out.2.1, HT15.out.2.2⟩
    case measure => omega
end Go.Proofs.YtljiichcmljbgaaGreat
