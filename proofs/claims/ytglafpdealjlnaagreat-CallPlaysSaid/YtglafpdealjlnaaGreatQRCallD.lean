/- WRITTEN by wip/gen/rctake.py. The walk of the document's Take of a call (chapter 22). -/
import Derived.Deep.DeepCutAuto
import Derived.Deep.CutRange
import Derived.Deep.LoopGhost
import Derived.Test.YtglafpdealjlnaaGreatQRCallC
import Derived.Test.YtglafpdealjlnaaGreatQRefW
namespace Go.Proofs.YtglafpdealjlnaaGreat
open Go.RowKit
set_option linter.unusedSimpArgs false
set_option linter.unusedVariables false
set_option maxRecDepth 100000

theorem ctl5' {W : World} {g : Nat} {a b c d e : Value} (h : Blk W g 24 #[a, b, c, d, e]) :
    W.cell? ⟨g, 0, none⟩ = some a ∧ W.cell? ⟨g, 1, none⟩ = some b ∧ W.cell? ⟨g, 2, none⟩ = some c ∧ W.cell? ⟨g, 3, none⟩ = some d ∧ W.cell? ⟨g, 4, none⟩ = some e ∧ True :=
  ⟨h.cell 0, h.cell 1, h.cell 2, h.cell 3, h.cell 4, trivial⟩
theorem info_rsay : (Tryz.prog.info? 91).map (fun i => (i.zero, i.size, i.bytes)) = some (some (.agg #[.int .i64 0, .slice none 0 0]), 2, 32) := by kernel_rfl
theorem rcall9 {W : World} {b : Nat} {k : K} {vw vg : Value} (h : Blk W b 101 (k.rcells vw vg)) :
    W.cell? ⟨b, 2, none⟩ = some (.int .i64 k.peer) ∧ W.cell? ⟨b, 3, none⟩ = some (.bool k.out) ∧ W.cell? ⟨b, 4, none⟩ = some (.int .i64 k.state) ∧ W.cell? ⟨b, 6, none⟩ = some vg ∧ W.cell? ⟨b, 7, none⟩ = some (.int .i64 k.wens) ∧ W.cell? ⟨b, 8, none⟩ = some (.int .i64 k.slis) ∧
    W.frozen? ⟨b, 2, none⟩ = false ∧ W.frozen? ⟨b, 4, none⟩ = false ∧ W.frozen? ⟨b, 6, none⟩ = false ∧ W.frozen? ⟨b, 7, none⟩ = false ∧ W.frozen? ⟨b, 8, none⟩ = false ∧ b < W.heap.size :=
  ⟨h.cell 2, h.cell 3, h.cell 4, h.cell 6, h.cell 7, h.cell 8, h.frozen 2, h.frozen 4, h.frozen 6, h.frozen 7, h.frozen 8, h.lt⟩
theorem role1 (kd : Int) (out : Bool) : (roleOf kd out = 1 ↔ kd = (if out = true then 7 else 10)) ∧ (roleOf kd out = 2 ↔ kd = (if out = true then 8 else 11)) ∧ (roleOf kd out = 3 ↔ kd = (if out = true then 9 else 12)) := by
  have key : ∀ kd : Int, kd = 7 ∨ kd = 8 ∨ kd = 9 ∨ kd = 10 ∨ kd = 11 ∨ kd = 12 ∨ (kd ≠ 7 ∧ kd ≠ 8 ∧ kd ≠ 9 ∧ kd ≠ 10 ∧ kd ≠ 11 ∧ kd ≠ 12) := by omega
  cases out
  all_goals
    rcases key kd with rfl | rfl | rfl | rfl | rfl | rfl | ⟨h7, h8, h9, h10, h11, h12⟩
    all_goals first | decide | skip
    have e : ∀ b : Bool, roleOf kd b = 0 := by
      intro b
      unfold roleOf roleTab
      have n7 : ¬ kd = 7 := h7
      simp [h7, h8, h9, h10, h11, h12]
    rw [e]
    simp [h7, h8, h9, h10, h11, h12]

set_option maxHeartbeats 2000000 in
theorem rtake_any (b : Nat) (k : K) (hi : Big k.id) (hst : k.state = 0 ∨ k.state = 1 ∨ k.state = 2 ∨ k.state = 3 ∨ k.state = 4) (hp : k.state = 0 ∨ k.state = 1 → k.peer = 0) (hw : k.with_.length < 100000)
    (hwn : 0 ≤ k.wens ∧ k.wens < 2147483647) (hsl : 0 ≤ k.slis ∧ k.slis < 2147483647) (l : List Av) (t s ns nr : Int) (v : Value) (w : World) (h : RCallAt w b k) (hl : AvsAt w v l) (hs : ∀ a ∈ l, a.val.size ≤ maxLen) (hln : l.length < 100000)
    (hfar : ∀ W, Upd [b] w W → AvsAt W v l) :
    Calls Tryz.prog 47 #[.pointer (some ⟨b, 0, none⟩), .agg #[.int .i64 t, .int .i64 s, .int .i64 ns, .int .i64 nr, v]] w (RSaidEnd w b (k.take l)) := by
  obtain ⟨ao, cap, rfl, -⟩ := id hl
  obtain ⟨n, hn⟩ : ∃ n, n = l.length := ⟨_, rfl⟩
  rw [← hn] at hl hfar hln ⊢
  obtain ⟨R, hR⟩ : ∃ R, k.take l = R := ⟨_, rfl⟩
  rw [hR]
  obtain ⟨kd, hkd⟩ : ∃ x, kindOf l = x := ⟨_, rfl⟩
  obtain ⟨ck, hck⟩ : ∃ x, checkOf l = x := ⟨_, rfl⟩
  obtain ⟨nid, nb, hnum⟩ : ∃ x y, numberAv l 14 = (x, y) := ⟨_, _, rfl⟩
  have HR : Hid ((if k.state = 4 then (k, [])
    else if k.state = 0 ∧ roleOf kd k.out ≠ 1 then (k, [])
    else if ck ≠ 0 then k.fin 2
    else if kd = 14 then ({ k with state := 4 }, [])
    else k.handle kd (roleOf kd k.out) l) = R) := by
    show _ = _
    rw [← hR, K.take, hkd, hck]
  have HNM : Hid ((numberAv l 14).1 = nid) := by show _ = _; rw [hnum]
  have HNUM : Hid (∀ W, AvsAt W (.slice ao n cap) l → Calls Tryz.prog 188 #[.slice ao n cap, .int .i64 14] W fun e w' => e = .returned (.tuple #[.int .i64 nid, .bool nb]) ∧ Upd [] W w') := fun W hW => by
    have h := rnumber18_any l (.slice ao n cap) 14 W hW hs
    rw [hnum] at h
    exact h
  have HKD := Lib.hid hkd
  have HCK := Lib.hid hck
  have HID := Lib.hid hi
  have HS := Lib.hid hs
  have HLN : Hid (n = l.length) := hn
  have hbl := h.lt
  obtain ⟨bm, hbm⟩ : ∃ x, x = w.heap.size := ⟨_, rfl⟩
  have B0 := Blk.new w 24 #[.int .i64 t, .int .i64 s, .int .i64 ns, .int .i64 nr, .slice ao n cap]
  have HU0 := Lib.hid ((Upd.refl [] w).alloc (.cells #[.int .i64 t, .int .i64 s, .int .i64 ns, .int .i64 nr, .slice ao n cap] 24))
  have HK0 := Lib.hid (h.upd HU0.out)
  rw [← hbm] at B0
  have hne : bm ≠ b := by omega
  have HFA := Lib.hid hfar
  have HBM := Lib.hid hbm
  clear hl hfar hR hkd hck hnum hn hs hi hbm h
  go_enter Tryz.func47, Tryz.ntmps47
  go_upto_region 1 with (fail)
  try rw [← HBM.out]
  generalize hw1 : w.alloc (.cells #[.int .i64 t, .int .i64 s, .int .i64 ns, .int .i64 nr, .slice ao n cap] 24) = w1 at *
  clear hw1
  have HF : Hid (∀ W, Upd [b] w1 W → Blk W bm 24 #[.int .i64 t, .int .i64 s, .int .i64 ns, .int .i64 nr, .slice ao n cap] ∧ AvsAt W (.slice ao n cap) l) := fun W hW => ⟨B0.upd hW (by simpa using hne), HFA.out W ((HU0.out.mono (by simp)).trans hW)⟩
  obtain ⟨c0, c1, c2, c3, c4, -⟩ := ctl5' (HF.out w1 (Upd.refl _ _)).1
  clear B0 HFA
  go_wp2_with fail
  refine (rkind_any t s ns nr _ l _ (HF.out w1 (Upd.refl _ _)).2 HS.out).mono ?_
  rintro e w2 ⟨rfl, hu2⟩
  rw [HKD.out]
  have HU2 := Lib.hid hu2
  have HU2B : Hid (Upd [b] w w2) := (HU0.out.mono (by simp)).trans (hu2.mono (by simp))
  have HK2 := Lib.hid (HK0.out.upd hu2)
  have HCHK := Lib.hid (fun W (hW : Upd [b] w1 W) => rcheck_any t s ns nr (.slice ao n cap) l W (HF.out W hW).2 HS.out)
  rw [HCK.out] at HCHK
  clear hu2 c0 c1 c2 c3 c4 HK0
  obtain ⟨vw, vg, hb2⟩ := HK2.out.cells_
  obtain ⟨p2, p3, p4, p6, p7, p8, q2, q4, q6, q7, q8, plt⟩ := rcall9 hb2
  clear hb2
  rcases hst with st | st | st | st | st
  rotate_left 4
  · have hr := HR.out
    rw [if_pos st] at hr
    subst hr
    rw [st] at p4
    clear HR HNUM HCHK
    generalize k.state = sst at *
    go_wp2_with fail
    go_ret
    exact ⟨⟨_, [], rfl, RSaysAt.nil _, (by simp), HK2.out, HU2B.out⟩⟩
  · rw [st] at p4
    have hp0 := hp
    have hr := HR.out
    rw [if_neg (by rw [st]; decide)] at hr
    have HR1 := Lib.hid hr
    clear HR hr
    have ST := Lib.hid st
    obtain ⟨kq, hkq⟩ : ∃ x : Int, (if k.out = true then 7 else 7 + 3) = x := ⟨_, rfl⟩
    have HKQ := Lib.hid hkq
    have hrole : roleOf kd k.out = 1 ↔ kd = kq := by
      rw [(role1 kd k.out).1, ← hkq]
      cases k.out <;> simp
    by_cases tq : kd = kq
    rotate_left
    · have hr := HR1.out
      rw [if_pos ⟨st, fun h => tq (hrole.1 h)⟩] at hr
      subst hr
      have tq' : (kd != kq) = true := by simpa using tq
      clear HR1 HNUM HCHK tq hrole hkq st
      generalize k.state = sst at *
      go_wp2_with fail
      refine (rckind_any b k 7 (by omega) _ HK2.out).mono ?_
      rintro e wk ⟨rfl, rfl⟩
      rw [HKQ.out]
      go_wp2_with fail
      go_ret
      exact ⟨⟨_, [], rfl, RSaysAt.nil _, (by simp), HK2.out, HU2B.out⟩⟩
    have hr := HR1.out
    rw [if_neg (by rintro ⟨_, h⟩; exact h (hrole.2 tq))] at hr
    have HR2 := Lib.hid hr
    have tq' : (kd != kq) = false := by simpa using tq
    have HROLE := Lib.hid (hrole.2 tq)
    clear HR1 hr tq hrole hkq
    obtain ⟨c0, c1, c2, c3, c4, -⟩ := ctl5' (HF.out w2 (HU2.out.mono (by simp))).1
    go_wp2_with fail
    refine (rckind_any b k 7 (by omega) _ HK2.out).mono ?_
    rintro e wk ⟨rfl, rfl⟩
    rw [HKQ.out]
    go_wp2_with fail
    refine (HCHK.out _ (HU2.out.mono (by simp))).mono ?_
    rintro e w3 ⟨rfl, hu3⟩
    have HU3 := Lib.hid (HU2.out.trans hu3)
    have HK3 := Lib.hid (HK2.out.upd hu3)
    have HU3B : Hid (Upd [b] w w3) := HU2B.out.trans (hu3.mono (by simp))
    clear hu3 HCHK c0 c1 c2 c3 c4 p2 p3 p4 p6 p7 p8 q2 q4 q6 q7 q8 plt
    by_cases ct : ck ≠ 0
    · have hr := HR2.out
      rw [if_pos ct] at hr
      subst hr
      have ct' : (ck != 0) = true := by simpa using ct
      have HE := Lib.hid (rend_any b k HID.out 2 (by decide) _ HK3.out)
      generalize k.fin 2 = r at *
      clear HR2 HNUM ct st
      go_wp2_with fail
      refine HE.out.mono ?_
      rintro e w4 ⟨⟨v4, own4, rfl, hv4, hf4, hk4, hu4⟩⟩
      obtain ⟨a4, c4, rfl, -, -⟩ := hv4.shape
      have HV4 := Lib.hid hv4
      have HF4 : Hid (∀ x ∈ own4, w.heap.size ≤ x) := fun x hx => Nat.le_trans HU3B.out.size (hf4 x hx)
      have HK4 := Lib.hid hk4
      have HU4 := Lib.hid (HU3B.out.trans hu4)
      clear hv4 hf4 hk4 hu4
      generalize r.2.length = rn at *
      go_wp2_with fail
      go_ret
      exact ⟨⟨_, own4, rfl, HV4.out, HF4.out, HK4.out, HU4.out⟩⟩
    have hr := HR2.out
    rw [if_neg ct] at hr
    have HR3 := Lib.hid hr
    have ct' : (ck != 0) = false := by simpa using ct
    clear HR2 hr ct
    obtain ⟨c0, c1, c2, c3, c4, -⟩ := ctl5' (HF.out w3 (HU3.out.mono (by simp))).1
    go_wp2_with fail
    refine (HNUM.out _ (HF.out w3 (HU3.out.mono (by simp))).2).mono ?_
    rintro e w4 ⟨rfl, hu4⟩
    have HU4 := Lib.hid (HU3.out.trans hu4)
    have HK4 := Lib.hid (HK3.out.upd hu4)
    have HU4B : Hid (Upd [b] w w4) := HU3B.out.trans (hu4.mono (by simp))
    clear hu4 HNUM c0 c1 c2 c3 c4 HK3 HU3 HU3B HK2 HU2 HU2B
    obtain ⟨vw, vg, hb4⟩ := HK4.out.cells_
    obtain ⟨p2, p3, p4, p6, p7, p8, q2, q4, q6, q7, q8, plt⟩ := rcall9 hb4
    clear hb4
    rw [st] at p4
    have h14 : ¬ kd = 14 := by
      have h := (role1 kd k.out).1.1 HROLE.out
      cases hko : k.out <;> rw [hko] at h <;> simp at h <;> omega
    have hr := HR3.out
    rw [if_neg h14, HROLE.out, K.handle, if_pos (.inl st)] at hr
    have HR4 := Lib.hid hr
    clear HR3 hr h14
    have hpe := hp (.inl st)
    have HPE := Lib.hid hpe
    rw [hpe] at p2
    clear hpe
    by_cases t0 : nid = 0
    rotate_left
    · have hk1 : k.named1 l = { k with peer := nid } := by
        unfold K.named1
        rw [HNM.out]
      have hr := HR4.out
      rw [K.named, hk1, if_neg (show ¬ ({ k with peer := nid } : K).peer = 0 from t0)] at hr
      have HR5 := Lib.hid hr
      have t0' : (nid == 0) = false := by simpa using t0
      have HK5 : Hid (RCallAt (w4.setCell ⟨b, 2, none⟩ (.int .i64 nid)) b { k with peer := nid }) := HK4.out.set 2 _ (fun _ _ => rfl) rfl rfl
      have HU5B : Hid (Upd [b] w (w4.setCell ⟨b, 2, none⟩ (.int .i64 nid))) := HU4B.out.setCell _ (.inl (by simp))
      clear HR4 hr hk1
      obtain ⟨x2, hx2⟩ : ∃ x, be 2 k.id = x := ⟨_, rfl⟩
      have HOWN : Hid (({ k with peer := nid } : K).own.agg = .agg #[.bool true, .bool false, .int .i64 0, .int .i64 14, .string x2]) := by rw [← hx2]; rfl
      have HOW : Hid (k.own = ⟨true, false, 0, 14, x2⟩) := by rw [← hx2]; rfl
      obtain ⟨kr, hkr⟩ : ∃ x, kindFor k.out 2 = x := ⟨_, rfl⟩
      have HKR : Hid ((if ({ k with peer := nid } : K).out = true then (8 : Int) else 8 + 3) = kr) := by
        show (if k.out = true then (8 : Int) else 8 + 3) = kr
        rw [← hkr, (kindFor_eq k.out).2.1]
        split <;> rfl
      have HKRB : Hid (Big kr) := by
        show Big kr
        rw [← hkr, (kindFor_eq k.out).2.1]
        split <;> decide
      have HKF := Lib.hid hkr
      clear hx2 hkr
      go_upto_region 17 with (fail)
      generalize hw5 : w4.setCell ⟨b, 2, none⟩ (.int .i64 nid) = w5 at *
      clear hw5 p2 p3 p4 p6 p7 p8 q2 q4 q6 q7 q8 plt
      go_wp2_with fail
      refine (rckind_any b { k with peer := nid } 8 (by omega) _ HK5.out).mono ?_
      rintro e wk ⟨rfl, rfl⟩
      rw [HKR.out]
      go_wp2_with fail
      refine (rcid_any b { k with peer := nid } HID.out _ HK5.out).mono ?_
      rintro e w6 ⟨rfl, hu6⟩
      rw [HOWN.out]
      have HA := Lib.hid (avs_one w6 ⟨true, false, 0, 14, x2⟩)
      have HK6 := Lib.hid ((HK5.out.upd hu6).upd ((Upd.refl [] w6).alloc (.cells #[.bool true, .bool false, .int .i64 0, .int .i64 14, .string x2] 85)))
      have HU6B : Hid (Upd [b] w (w6.alloc (.cells #[.bool true, .bool false, .int .i64 0, .int .i64 14, .string x2] 85))) := (HU5B.out.trans (hu6.mono (by simp))).alloc _
      clear hu6
      go_wp2_with fail
      refine (rsay_any b { k with peer := nid } kr HKRB.out _ _ _ HK6.out HA.out (by simp)).mono ?_
      intro e w8 hs8
      obtain ⟨ao8, c8, own8, rfl, ho8, hf8, hu8⟩ := hs8.at_
      have HO8 := Lib.hid ho8
      have HF8 : Hid (∀ x ∈ own8, w.heap.size ≤ x) := fun x hx => Nat.le_trans HU6B.out.size (hf8 x hx)
      have HK8 := Lib.hid (HK6.out.upd hu8)
      have HU8B : Hid (Upd [b] w w8) := HU6B.out.trans (hu8.mono (by simp))
      clear hs8 ho8 hf8 hu8 HK5 HU5B HK6 HU6B HA HOWN HKRB
      obtain ⟨vw, vg, hb8⟩ := HK8.out.cells_
      obtain ⟨p2, p3, p4, p6, p7, p8, q2, q4, q6, q7, q8, plt⟩ := rcall9 hb8
      have HB8 := Lib.hid hb8
      clear hb8
      dsimp only at p3 p4
      rw [st] at p4
      cases hko : k.out
      · have hr := HR5.out
        rw [if_neg (show ¬ decide (k.state = 0) = k.out by rw [decide_eq_true (show k.state = 0 from st), hko]; simp), if_pos (show k.state = 0 from st)] at hr
        subst hr
        rw [hko] at p3
        have HK9 : Hid (RCallAt (w8.setCell ⟨b, 4, none⟩ (.int .i64 2)) b { k with peer := nid, state := 2 }) := HK8.out.set 4 _ (fun _ _ => rfl) rfl rfl
        have HU9 : Hid (Upd [b] w (w8.setCell ⟨b, 4, none⟩ (.int .i64 2))) := HU8B.out.setCell _ (.inl (by simp))
        have HO9 : Hid (RSaysAt (w8.setCell ⟨b, 4, none⟩ (.int .i64 2)) (.slice ao8 1 c8) [(nid, numAv 0 kr 2 :: [⟨true, false, 0, 14, x2⟩])] own8) := HO8.out.away HB8.out (by decide) (by decide) ((Upd.refl [b] _).setCell _ (.inl (by simp)))
        have HSY : Hid ((({ k with peer := nid } : K).say (kindFor k.out 2) [k.own]) = (nid, numAv 0 kr 2 :: [⟨true, false, 0, 14, x2⟩])) := by
          show _ = _
          rw [HKF.out, HOW.out]
          rfl
        clear HR5 st t0 HO8 HK8 HB8 HPE HROLE hko
        go_wp2_with fail
        go_ret
        exact ⟨⟨_, own8, rfl, (by show RSaysAt _ _ [(({ k with peer := nid } : K).say (kindFor k.out 2) [k.own])] _; rw [HSY.out]; exact HO9.out), HF8.out, HK9.out, HU9.out⟩⟩
      · have hr := HR5.out
        rw [if_pos (show decide (k.state = 0) = k.out by rw [decide_eq_true (show k.state = 0 from st), hko]), if_pos (show k.state = 0 from st)] at hr
        subst hr
        rw [hko] at p3
        obtain ⟨i0, hi0, hz0, hz1, hz2⟩ := info_parts info_rsay
        have HK9 : Hid (RCallAt ((w8.setCell ⟨b, 4, none⟩ (.int .i64 2)).setCell ⟨b, 4, none⟩ (.int .i64 3)) b { k with peer := nid, state := 3 }) := (HK8.out.set (k' := { k with peer := nid, state := 2 }) 4 (.int .i64 2) (fun _ _ => rfl) rfl rfl).set 4 _ (fun _ _ => rfl) rfl rfl
        have HUS : Hid (Upd [b] w8 ((w8.setCell ⟨b, 4, none⟩ (.int .i64 2)).setCell ⟨b, 4, none⟩ (.int .i64 3))) := ((Upd.refl [b] _).setCell _ (.inl (by simp))).setCell _ (.inl (by simp))
        have HU9 : Hid (Upd [b] w ((w8.setCell ⟨b, 4, none⟩ (.int .i64 2)).setCell ⟨b, 4, none⟩ (.int .i64 3))) := HU8B.out.trans HUS.out
        have HO9 := Lib.hid (HO8.out.away HB8.out (by decide) (by decide) HUS.out)
        have HSY : Hid ((({ k with peer := nid } : K).say (kindFor k.out 2) [k.own]) = (nid, numAv 0 kr 2 :: [⟨true, false, 0, 14, x2⟩])) := by
          show _ = _
          rw [HKF.out, HOW.out]
          rfl
        have HCN : Hid (({ k with peer := nid, state := 3 } : K).conn = ({ k with peer := nid } : K).conn) := rfl
        obtain ⟨cn, hcn⟩ : ∃ x, x = ({ k with peer := nid } : K).conn := ⟨_, rfl⟩
        obtain ⟨p1, hp1⟩ : ∃ x : Sy, x = (nid, numAv 0 kr 2 :: [⟨true, false, 0, 14, x2⟩]) := ⟨_, rfl⟩
        obtain ⟨KR, hKR⟩ : ∃ x : K, x = { k with peer := nid, state := 3 } := ⟨_, rfl⟩
        have HCE := Lib.hid (And.intro hcn (And.intro hp1 hKR))
        rw [← hcn] at HCN ⊢
        have HSAYS : Hid (([({ k with peer := nid } : K).say (kindFor k.out 2) [k.own]] : List Sy) ++ [cn] = [p1] ++ [cn]) := by show _ = _; rw [HSY.out, hp1]
        rw [HSAYS.out]
        have HO9' : Hid (RSaysAt ((w8.setCell ⟨b, 4, none⟩ (.int .i64 2)).setCell ⟨b, 4, none⟩ (.int .i64 3)) (.slice ao8 1 c8) [p1] own8) := by
          show RSaysAt _ _ _ _
          rw [hp1]
          exact HO9.out
        have HCONN := Lib.hid (rconnect_any b { k with peer := nid, state := 3 } _ HK9.out hw)
        rw [HCN.out] at HCONN
        clear HR5 st t0 HO8 HK8 HB8 HPE HROLE hko hcn hp1 hKR HO9 HUS HU8B
        go_wp2_with fail
        refine HCONN.out.mono ?_
        intro e w10 hs10
        obtain ⟨ao10, c10, own10, rfl, ho10, hf10, hu10⟩ := hs10.at_
        have HK10 := Lib.hid (HK9.out.upd hu10)
        have HU10 : Hid (Upd [b] w w10) := HU9.out.trans (hu10.mono (by simp))
        obtain ⟨us1, a1, b1, d1⟩ := HO9'.out.upd hu10
        obtain ⟨us2, a2, b2, d2⟩ := ho10
        have HB1 := Lib.hid b1
        have HR2 := Lib.hid (b2.rdB (says_one d2))
        have HD := Lib.hid (And.intro d1 d2)
        have HA12 := Lib.hid (And.intro a1 a2)
        clear hs10 hf10 hu10 b1 b2 d1 d2 a1 a2 HO9' HCONN HK9 HU9
        go_wp2_with (at_builtin; refine wpList_append_Rd _ rfl (.tmp 101) (.tmp 103) 78 rfl 91 i0 _ 2 32 Tryz.underlying78 hi0 hz0 hz1 hz2 rfl (by decide) _ 1 _ _ (by simp [Act.eval]) HB1.out _ 1 _ (by simp [Act.eval]) HR2.out (by simp only [maxLen]; omega) (by omega) ?_; intro ao1 cap1 w11 own1 ho1 hin1 hu11; have HO1 := Lib.hid ho1; have HIN1 := Lib.hid hin1; have HU11 := Lib.hid hu11; clear ho1 hin1 hu11)
        go_ret
        have HCAT := Lib.hid (RSaysAt.cat (v2 := .slice none 0 0) (o2 := []) HA12.out.1 HA12.out.2 HD.out.1 HD.out.2 HB1.out HU11.out HO1.out)
        refine ⟨⟨_, own1, rfl, (by first | exact HCAT.out | (show RSaysAt _ _ ([({ k with peer := nid } : K).say (kindFor k.out 2) [k.own]] ++ [cn]) _; rw [HSAYS.out]; exact HCAT.out) | (show RSaysAt _ _ ([({ k with peer := nid } : K).say (kindFor k.out 2) [k.own]] ++ [({ k with peer := nid } : K).conn]) _; rw [← HCE.out.1, HSAYS.out]; exact HCAT.out)), fun x hx => ?_, HK10.out.awayOwn HB1.out (by decide) (by decide) HU11.out, HU10.out.trans' HU11.out (fun x hx => .inr (HF8.out x hx))⟩⟩
        rcases HIN1.out x hx with h | h
        · exact HF8.out x h
        · exact Nat.le_trans HU10.out.size h
    · have hn1 : k.named1 l = k := by
        unfold K.named1
        rw [HNM.out, t0, ← HPE.out]
      have hr := HR4.out
      rw [K.named, hn1, if_pos HPE.out] at hr
      subst hr
      have HE := Lib.hid (rend_any b k HID.out 3 (by decide) _ HK4.out)
      generalize k.fin 3 = r at *
      subst t0
      clear HR4 hn1 st
      go_wp2_with fail
      refine HE.out.mono ?_
      rintro e w5 ⟨⟨v5, own5, rfl, hv5, hf5, hk5, hu5⟩⟩
      obtain ⟨a5, c5, rfl, -, -⟩ := hv5.shape
      have HV5 := Lib.hid hv5
      have HF5 : Hid (∀ x ∈ own5, w.heap.size ≤ x) := fun x hx => Nat.le_trans HU4B.out.size (hf5 x hx)
      have HK5 := Lib.hid hk5
      have HU5 := Lib.hid (HU4B.out.trans hu5)
      clear hv5 hf5 hk5 hu5
      generalize r.2.length = rn at *
      go_wp2_with fail
      go_ret
      exact ⟨⟨_, own5, rfl, HV5.out, HF5.out, HK5.out, HU5.out⟩⟩
  · rw [st] at p4
    have hp0 := hp
    have hr := HR.out
    rw [if_neg (by rw [st]; decide)] at hr
    have HR1 := Lib.hid hr
    clear HR hr
    have ST := Lib.hid st
    have hr := HR1.out
    rw [if_neg (by rw [st]; rintro ⟨h, _⟩; cases h)] at hr
    have HR2 := Lib.hid hr
    clear HR1 hr
    obtain ⟨c0, c1, c2, c3, c4, -⟩ := ctl5' (HF.out w2 (HU2.out.mono (by simp))).1
    go_wp2_with fail
    refine (HCHK.out _ (HU2.out.mono (by simp))).mono ?_
    rintro e w3 ⟨rfl, hu3⟩
    have HU3 := Lib.hid (HU2.out.trans hu3)
    have HK3 := Lib.hid (HK2.out.upd hu3)
    have HU3B : Hid (Upd [b] w w3) := HU2B.out.trans (hu3.mono (by simp))
    clear hu3 HCHK c0 c1 c2 c3 c4 p2 p3 p4 p6 p7 p8 q2 q4 q6 q7 q8 plt
    by_cases ct : ck ≠ 0
    · have hr := HR2.out
      rw [if_pos ct] at hr
      subst hr
      have ct' : (ck != 0) = true := by simpa using ct
      have HE := Lib.hid (rend_any b k HID.out 2 (by decide) _ HK3.out)
      generalize k.fin 2 = r at *
      clear HR2 HNUM ct st
      go_wp2_with fail
      refine HE.out.mono ?_
      rintro e w4 ⟨⟨v4, own4, rfl, hv4, hf4, hk4, hu4⟩⟩
      obtain ⟨a4, c4, rfl, -, -⟩ := hv4.shape
      have HV4 := Lib.hid hv4
      have HF4 : Hid (∀ x ∈ own4, w.heap.size ≤ x) := fun x hx => Nat.le_trans HU3B.out.size (hf4 x hx)
      have HK4 := Lib.hid hk4
      have HU4 := Lib.hid (HU3B.out.trans hu4)
      clear hv4 hf4 hk4 hu4
      generalize r.2.length = rn at *
      go_wp2_with fail
      go_ret
      exact ⟨⟨_, own4, rfl, HV4.out, HF4.out, HK4.out, HU4.out⟩⟩
    have hr := HR2.out
    rw [if_neg ct] at hr
    have HR3 := Lib.hid hr
    have ct' : (ck != 0) = false := by simpa using ct
    clear HR2 hr ct
    obtain ⟨c0, c1, c2, c3, c4, -⟩ := ctl5' (HF.out w3 (HU3.out.mono (by simp))).1
    go_wp2_with fail
    refine (HNUM.out _ (HF.out w3 (HU3.out.mono (by simp))).2).mono ?_
    rintro e w4 ⟨rfl, hu4⟩
    have HU4 := Lib.hid (HU3.out.trans hu4)
    have HK4 := Lib.hid (HK3.out.upd hu4)
    have HU4B : Hid (Upd [b] w w4) := HU3B.out.trans (hu4.mono (by simp))
    clear hu4 HNUM c0 c1 c2 c3 c4 HK3 HU3 HU3B HK2 HU2 HU2B
    obtain ⟨vw, vg, hb4⟩ := HK4.out.cells_
    obtain ⟨p2, p3, p4, p6, p7, p8, q2, q4, q6, q7, q8, plt⟩ := rcall9 hb4
    clear hb4
    rw [st] at p4
    obtain ⟨kr, hkr⟩ : ∃ x : Int, (if k.out = true then 8 else 8 + 3) = x := ⟨_, rfl⟩
    have HKR := Lib.hid hkr
    have hrole : roleOf kd k.out = 2 ↔ kd = kr := by
      rw [(role1 kd k.out).2.1, ← hkr]
      cases k.out <;> simp
    have hkr14 : kr ≠ 14 := by rw [← hkr]; split <;> decide
    by_cases tq : kd = kr
    rotate_left
    · have tq' : (kd == kr) = false := by simpa using tq
      have hr2 : ¬ roleOf kd k.out = 2 := fun h => tq (hrole.1 h)
      clear tq hrole hkr
      by_cases t14 : kd = 14
      · have hr := HR3.out
        rw [if_pos t14] at hr
        subst hr
        have t14' : (kd == 14) = true := by simpa using t14
        have HKX : Hid (RCallAt (w4.setCell ⟨b, 4, none⟩ (.int .i64 4)) b { k with state := 4 }) := HK4.out.set 4 _ (fun _ _ => rfl) rfl rfl
        have HUX : Hid (Upd [b] w (w4.setCell ⟨b, 4, none⟩ (.int .i64 4))) := HU4B.out.setCell _ (.inl (by simp))
        clear HR3 t14 st
        go_wp2_with fail
        refine (rckind_any b k 8 (by omega) _ HK4.out).mono ?_
        rintro e wk ⟨rfl, rfl⟩
        rw [HKR.out]
        go_wp2_with fail
        go_ret
        exact ⟨⟨_, [], rfl, RSaysAt.nil _, (by simp), HKX.out, HUX.out⟩⟩
      have hr := HR3.out
      rw [if_neg t14, K.handle, if_neg (by rintro (h | h); rw [st] at h; cases h; exact hr2 h.2), if_neg (by rw [st]; rintro ⟨h, _⟩; cases h), if_neg (by rw [st]; rintro ⟨h, _⟩; cases h), if_neg (by rw [st]; rintro ⟨h, _⟩; cases h)] at hr
      subst hr
      have t14' : (kd == 14) = false := by simpa using t14
      clear HR3 t14 st
      go_wp2_with fail
      refine (rckind_any b k 8 (by omega) _ HK4.out).mono ?_
      rintro e wk ⟨rfl, rfl⟩
      rw [HKR.out]
      go_wp2_with fail
      go_ret
      exact ⟨⟨_, [], rfl, RSaysAt.nil _, (by simp), HK4.out, HU4B.out⟩⟩
    have h14 : ¬ kd = 14 := by rw [tq]; exact hkr14
    have hr := HR3.out
    rw [if_neg h14, K.handle, if_pos (.inr ⟨st, hrole.2 tq⟩)] at hr
    have HR4 := Lib.hid hr
    have tq' : (kd == kr) = true := by simpa using tq
    clear HR3 hr h14 hrole hkr hkr14 tq
    have hpe := hp (.inr st)
    have HPE := Lib.hid hpe
    rw [hpe] at p2
    clear hpe
    by_cases t0 : nid = 0
    rotate_left
    · have hk1 : k.named1 l = { k with peer := nid } := by
        unfold K.named1
        rw [HNM.out]
      have hr := HR4.out
      rw [K.named, hk1, if_neg (show ¬ ({ k with peer := nid } : K).peer = 0 from t0)] at hr
      have HR5 := Lib.hid hr
      have t0' : (nid == 0) = false := by simpa using t0
      have HK5 : Hid (RCallAt (w4.setCell ⟨b, 2, none⟩ (.int .i64 nid)) b { k with peer := nid }) := HK4.out.set 2 _ (fun _ _ => rfl) rfl rfl
      have HU5B : Hid (Upd [b] w (w4.setCell ⟨b, 2, none⟩ (.int .i64 nid))) := HU4B.out.setCell _ (.inl (by simp))
      clear HR4 hr hk1
      cases hko : k.out
      · have hr := HR5.out
        rw [if_pos (show decide (k.state = 0) = k.out by rw [decide_eq_false (show ¬ k.state = 0 by rw [st]; decide), hko]), if_neg (show ¬ k.state = 0 by rw [st]; decide)] at hr
        subst hr
        rw [hko] at p3
        have HK6 : Hid (RCallAt ((w4.setCell ⟨b, 2, none⟩ (.int .i64 nid)).setCell ⟨b, 4, none⟩ (.int .i64 3)) b { k with peer := nid, state := 3 }) := HK5.out.set 4 _ (fun _ _ => rfl) rfl rfl
        have HU6 : Hid (Upd [b] w ((w4.setCell ⟨b, 2, none⟩ (.int .i64 nid)).setCell ⟨b, 4, none⟩ (.int .i64 3))) := HU5B.out.setCell _ (.inl (by simp))
        have HCN : Hid (({ k with peer := nid, state := 3 } : K).conn = ({ k with peer := nid } : K).conn) := rfl
        clear HR5 st t0 HK5 HU5B hko HPE
        go_wp2_with fail
        refine (rckind_any b k 8 (by omega) _ HK4.out).mono ?_
        rintro e wk ⟨rfl, rfl⟩
        rw [HKR.out]
        go_wp2_with fail
        refine (rconnect_any b { k with peer := nid, state := 3 } _ HK6.out hw).mono ?_
        intro e w7 hs7
        rw [HCN.out] at hs7
        generalize ({ k with peer := nid } : K).conn = cn at *
        obtain ⟨ao7, c7, own7, rfl, ho7, hf7, hu7⟩ := hs7.at_
        have HO7 := Lib.hid ho7
        have HF7 : Hid (∀ x ∈ own7, w.heap.size ≤ x) := fun x hx => Nat.le_trans HU6.out.size (hf7 x hx)
        have HK7 := Lib.hid (HK6.out.upd hu7)
        have HU7 : Hid (Upd [b] w w7) := HU6.out.trans (hu7.mono (by simp))
        clear hs7 ho7 hf7 hu7
        go_wp2_with fail
        go_ret
        exact ⟨⟨_, own7, rfl, HO7.out, HF7.out, HK7.out, HU7.out⟩⟩
      · have hr := HR5.out
        rw [if_neg (show ¬ decide (k.state = 0) = k.out by rw [decide_eq_false (show ¬ k.state = 0 by rw [st]; decide), hko]; simp), if_neg (show ¬ k.state = 0 by rw [st]; decide)] at hr
        subst hr
        rw [hko] at p3
        have HK6 : Hid (RCallAt ((w4.setCell ⟨b, 2, none⟩ (.int .i64 nid)).setCell ⟨b, 4, none⟩ (.int .i64 2)) b { k with peer := nid, state := 2 }) := HK5.out.set 4 _ (fun _ _ => rfl) rfl rfl
        have HU6 : Hid (Upd [b] w ((w4.setCell ⟨b, 2, none⟩ (.int .i64 nid)).setCell ⟨b, 4, none⟩ (.int .i64 2))) := HU5B.out.setCell _ (.inl (by simp))
        clear HR5 st t0 HK5 HU5B hko HPE
        go_wp2_with fail
        refine (rckind_any b k 8 (by omega) _ HK4.out).mono ?_
        rintro e wk ⟨rfl, rfl⟩
        rw [HKR.out]
        go_wp2_with fail
        go_ret
        exact ⟨⟨_, [], rfl, RSaysAt.nil _, (by simp), HK6.out, HU6.out⟩⟩
    · have hn1 : k.named1 l = k := by
        unfold K.named1
        rw [HNM.out, t0, ← HPE.out]
      have hr := HR4.out
      rw [K.named, hn1, if_pos HPE.out] at hr
      subst hr
      have HE := Lib.hid (rend_any b k HID.out 3 (by decide) _ HK4.out)
      generalize k.fin 3 = r at *
      subst t0
      clear HR4 hn1 st
      go_wp2_with fail
      refine (rckind_any b k 8 (by omega) _ HK4.out).mono ?_
      rintro e wk ⟨rfl, rfl⟩
      rw [HKR.out]
      go_wp2_with fail
      refine HE.out.mono ?_
      rintro e w5 ⟨⟨v5, own5, rfl, hv5, hf5, hk5, hu5⟩⟩
      obtain ⟨a5, c5, rfl, -, -⟩ := hv5.shape
      have HV5 := Lib.hid hv5
      have HF5 : Hid (∀ x ∈ own5, w.heap.size ≤ x) := fun x hx => Nat.le_trans HU4B.out.size (hf5 x hx)
      have HK5 := Lib.hid hk5
      have HU5 := Lib.hid (HU4B.out.trans hu5)
      clear hv5 hf5 hk5 hu5
      generalize r.2.length = rn at *
      go_wp2_with fail
      go_ret
      exact ⟨⟨_, own5, rfl, HV5.out, HF5.out, HK5.out, HU5.out⟩⟩
  · rw [st] at p4
    have hp0 := hp
    have hr := HR.out
    rw [if_neg (by rw [st]; decide)] at hr
    have HR1 := Lib.hid hr
    clear HR hr
    have ST := Lib.hid st
    have hr := HR1.out
    rw [if_neg (by rw [st]; rintro ⟨h, _⟩; cases h)] at hr
    have HR2 := Lib.hid hr
    clear HR1 hr
    obtain ⟨c0, c1, c2, c3, c4, -⟩ := ctl5' (HF.out w2 (HU2.out.mono (by simp))).1
    go_wp2_with fail
    refine (HCHK.out _ (HU2.out.mono (by simp))).mono ?_
    rintro e w3 ⟨rfl, hu3⟩
    have HU3 := Lib.hid (HU2.out.trans hu3)
    have HK3 := Lib.hid (HK2.out.upd hu3)
    have HU3B : Hid (Upd [b] w w3) := HU2B.out.trans (hu3.mono (by simp))
    clear hu3 HCHK c0 c1 c2 c3 c4 p2 p3 p4 p6 p7 p8 q2 q4 q6 q7 q8 plt
    by_cases ct : ck ≠ 0
    · have hr := HR2.out
      rw [if_pos ct] at hr
      subst hr
      have ct' : (ck != 0) = true := by simpa using ct
      have HE := Lib.hid (rend_any b k HID.out 2 (by decide) _ HK3.out)
      generalize k.fin 2 = r at *
      clear HR2 HNUM ct st
      go_wp2_with fail
      refine HE.out.mono ?_
      rintro e w4 ⟨⟨v4, own4, rfl, hv4, hf4, hk4, hu4⟩⟩
      obtain ⟨a4, c4, rfl, -, -⟩ := hv4.shape
      have HV4 := Lib.hid hv4
      have HF4 : Hid (∀ x ∈ own4, w.heap.size ≤ x) := fun x hx => Nat.le_trans HU3B.out.size (hf4 x hx)
      have HK4 := Lib.hid hk4
      have HU4 := Lib.hid (HU3B.out.trans hu4)
      clear hv4 hf4 hk4 hu4
      generalize r.2.length = rn at *
      go_wp2_with fail
      go_ret
      exact ⟨⟨_, own4, rfl, HV4.out, HF4.out, HK4.out, HU4.out⟩⟩
    have hr := HR2.out
    rw [if_neg ct] at hr
    have HR3 := Lib.hid hr
    have ct' : (ck != 0) = false := by simpa using ct
    clear HR2 hr ct
    obtain ⟨c0, c1, c2, c3, c4, -⟩ := ctl5' (HF.out w3 (HU3.out.mono (by simp))).1
    go_wp2_with fail
    refine (HNUM.out _ (HF.out w3 (HU3.out.mono (by simp))).2).mono ?_
    rintro e w4 ⟨rfl, hu4⟩
    have HU4 := Lib.hid (HU3.out.trans hu4)
    have HK4 := Lib.hid (HK3.out.upd hu4)
    have HU4B : Hid (Upd [b] w w4) := HU3B.out.trans (hu4.mono (by simp))
    clear hu4 HNUM c0 c1 c2 c3 c4 HK3 HU3 HU3B HK2 HU2 HU2B
    obtain ⟨vw, vg, hb4⟩ := HK4.out.cells_
    obtain ⟨p2, p3, p4, p6, p7, p8, q2, q4, q6, q7, q8, plt⟩ := rcall9 hb4
    clear hb4
    rw [st] at p4
    obtain ⟨kc, hkc⟩ : ∃ x : Int, (if k.out = true then 9 else 9 + 3) = x := ⟨_, rfl⟩
    have HKC := Lib.hid hkc
    have hrole : roleOf kd k.out = 3 ↔ kd = kc := by
      rw [(role1 kd k.out).2.2, ← hkc]
      cases k.out <;> simp
    have hkc14 : kc ≠ 14 := by rw [← hkc]; split <;> decide
    by_cases tq : kd = kc
    rotate_left
    · have tq' : (kd == kc) = false := by simpa using tq
      have hr2 : ¬ roleOf kd k.out = 3 := fun h => tq (hrole.1 h)
      clear tq hrole hkc
      by_cases t14 : kd = 14
      · have hr := HR3.out
        rw [if_pos t14] at hr
        subst hr
        have t14' : (kd == 14) = true := by simpa using t14
        have HKX : Hid (RCallAt (w4.setCell ⟨b, 4, none⟩ (.int .i64 4)) b { k with state := 4 }) := HK4.out.set 4 _ (fun _ _ => rfl) rfl rfl
        have HUX : Hid (Upd [b] w (w4.setCell ⟨b, 4, none⟩ (.int .i64 4))) := HU4B.out.setCell _ (.inl (by simp))
        clear HR3 t14 st
        go_wp2_with fail
        refine (rckind_any b k 9 (by omega) _ HK4.out).mono ?_
        rintro e wk ⟨rfl, rfl⟩
        rw [HKC.out]
        go_wp2_with fail
        go_ret
        exact ⟨⟨_, [], rfl, RSaysAt.nil _, (by simp), HKX.out, HUX.out⟩⟩
      have hr := HR3.out
      rw [if_neg t14, K.handle, if_neg (by rw [st]; rintro (h | ⟨h, _⟩) <;> cases h), if_neg (fun h => hr2 h.2), if_neg (by rw [st]; rintro ⟨h, _⟩; cases h), if_neg (by rw [st]; rintro ⟨h, _⟩; cases h)] at hr
      subst hr
      have t14' : (kd == 14) = false := by simpa using t14
      clear HR3 t14 st
      go_wp2_with fail
      refine (rckind_any b k 9 (by omega) _ HK4.out).mono ?_
      rintro e wk ⟨rfl, rfl⟩
      rw [HKC.out]
      go_wp2_with fail
      go_ret
      exact ⟨⟨_, [], rfl, RSaysAt.nil _, (by simp), HK4.out, HU4B.out⟩⟩
    have h14 : ¬ kd = 14 := by rw [tq]; exact hkc14
    have hr := HR3.out
    rw [if_neg h14, K.handle, if_neg (by rw [st]; rintro (h | ⟨h, _⟩) <;> cases h), if_pos ⟨st, hrole.2 tq⟩] at hr
    subst hr
    have tq' : (kd == kc) = true := by simpa using tq
    obtain ⟨i0, hi0, hz0, hz1, hz2⟩ := info_parts info_avp
    have HK5 : Hid (RCallAt (w4.setCell ⟨b, 4, none⟩ (.int .i64 3)) b { k with state := 3 }) := HK4.out.set 4 _ (fun _ _ => rfl) rfl rfl
    have HU5 : Hid (Upd [b] w (w4.setCell ⟨b, 4, none⟩ (.int .i64 3))) := HU4B.out.setCell _ (.inl (by simp))
    have HF5 := Lib.hid (HF.out (w4.setCell ⟨b, 4, none⟩ (.int .i64 3)) ((HU4.out.mono (by simp)).setCell _ (.inl (by simp))))
    clear HR3 h14 hrole hkc hkc14 tq st
    go_upto_region 23 with (fail)
    go_wp2_with fail
    refine (rckind_any b k 9 (by omega) _ HK4.out).mono ?_
    rintro e wk ⟨rfl, rfl⟩
    rw [HKC.out]
    go_upto_region 25 with (fail)
    generalize hw5 : w4.setCell ⟨b, 4, none⟩ (.int .i64 3) = w5 at *
    clear hw5 p2 p3 p4 p6 p7 p8 q2 q4 q6 q7 q8 plt
    have HR5 := Lib.hid HF5.out.2.rd
    rw [← HLN.out] at HR5
    obtain ⟨c0, c1, c2, c3, c4, -⟩ := ctl5' HF5.out.1
    obtain ⟨vw, vg, ow, og, hb5, h52, h53⟩ := HK5.out
    have HB5 := Lib.hid hb5
    have HW5 := Lib.hid h52
    have lt5 := hb5.lt
    clear hb5 h52 h53
    go_wp2_with (at_builtin; refine wpList_append_Rd _ rfl (.const (.slice none 0 0)) (.tmp 123) 22 rfl 85 i0 _ 5 40 Tryz.underlying22 hi0 hz0 hz1 hz2 rfl (by decide) _ 0 [] [] (by simp [Act.eval]) (Own.nil _ _ _) _ n _ (by simp [Act.eval]) HR5.out (by simp only [maxLen]; omega) (by omega) ?_; intro ao1 cap1 w6 own1 ho1 hin1 hu6; rw [Nat.zero_add] at ho1; rw [Nat.zero_add]; rw [List.nil_append] at ho1; have HO1 := Lib.hid ho1; have HU6 := Lib.hid hu6; have HB6 := Lib.hid (HB5.out.upd hu6 (by simp)); have g6 := HB6.out.cell 6; have f6 := HB6.out.frozen 6; have lt6 := HB6.out.lt; simp [K.rcells] at g6; clear ho1 hin1 hu6)
    go_ret
    have hb2 := HB6.out.set_ 6 (.slice ao1 n cap1)
    have hw2 := (HW5.out.upd HU6.out (by simp)).setCell (p := ⟨b, 6, none⟩) (.slice ao1 n cap1) ((HW5.out.upd HU6.out (by simp)).ne_blk HB6.out (by decide))
    have hg2 := HO1.out.setCell (p := ⟨b, 6, none⟩) (.slice ao1 n cap1) (HO1.out.ne_blk HB6.out (by decide))
    rw [HLN.out] at hg2
    exact ⟨⟨_, [], rfl, RSaysAt.nil _, (by simp), ⟨vw, .slice ao1 n cap1, ow, own1, hb2, hw2, (by rw [HLN.out]; exact hg2)⟩, (HU5.out.trans (HU6.out.mono (by simp))).setCell _ (.inl (by simp))⟩⟩
  · rw [st] at p4
    have hp0 := hp
    have hr := HR.out
    rw [if_neg (by rw [st]; decide)] at hr
    have HR1 := Lib.hid hr
    clear HR hr
    have ST := Lib.hid st
    have hr := HR1.out
    rw [if_neg (by rw [st]; rintro ⟨h, _⟩; cases h)] at hr
    have HR2 := Lib.hid hr
    clear HR1 hr
    obtain ⟨c0, c1, c2, c3, c4, -⟩ := ctl5' (HF.out w2 (HU2.out.mono (by simp))).1
    go_wp2_with fail
    refine (HCHK.out _ (HU2.out.mono (by simp))).mono ?_
    rintro e w3 ⟨rfl, hu3⟩
    have HU3 := Lib.hid (HU2.out.trans hu3)
    have HK3 := Lib.hid (HK2.out.upd hu3)
    have HU3B : Hid (Upd [b] w w3) := HU2B.out.trans (hu3.mono (by simp))
    clear hu3 HCHK c0 c1 c2 c3 c4 p2 p3 p4 p6 p7 p8 q2 q4 q6 q7 q8 plt
    by_cases ct : ck ≠ 0
    · have hr := HR2.out
      rw [if_pos ct] at hr
      subst hr
      have ct' : (ck != 0) = true := by simpa using ct
      have HE := Lib.hid (rend_any b k HID.out 2 (by decide) _ HK3.out)
      generalize k.fin 2 = r at *
      clear HR2 HNUM ct st
      go_wp2_with fail
      refine HE.out.mono ?_
      rintro e w4 ⟨⟨v4, own4, rfl, hv4, hf4, hk4, hu4⟩⟩
      obtain ⟨a4, c4, rfl, -, -⟩ := hv4.shape
      have HV4 := Lib.hid hv4
      have HF4 : Hid (∀ x ∈ own4, w.heap.size ≤ x) := fun x hx => Nat.le_trans HU3B.out.size (hf4 x hx)
      have HK4 := Lib.hid hk4
      have HU4 := Lib.hid (HU3B.out.trans hu4)
      clear hv4 hf4 hk4 hu4
      generalize r.2.length = rn at *
      go_wp2_with fail
      go_ret
      exact ⟨⟨_, own4, rfl, HV4.out, HF4.out, HK4.out, HU4.out⟩⟩
    have hr := HR2.out
    rw [if_neg ct] at hr
    have HR3 := Lib.hid hr
    have ct' : (ck != 0) = false := by simpa using ct
    clear HR2 hr ct
    obtain ⟨c0, c1, c2, c3, c4, -⟩ := ctl5' (HF.out w3 (HU3.out.mono (by simp))).1
    go_wp2_with fail
    refine (HNUM.out _ (HF.out w3 (HU3.out.mono (by simp))).2).mono ?_
    rintro e w4 ⟨rfl, hu4⟩
    have HU4 := Lib.hid (HU3.out.trans hu4)
    have HK4 := Lib.hid (HK3.out.upd hu4)
    have HU4B : Hid (Upd [b] w w4) := HU3B.out.trans (hu4.mono (by simp))
    clear hu4 HNUM c0 c1 c2 c3 c4 HK3 HU3 HU3B HK2 HU2 HU2B
    obtain ⟨vw, vg, hb4⟩ := HK4.out.cells_
    obtain ⟨p2, p3, p4, p6, p7, p8, q2, q4, q6, q7, q8, plt⟩ := rcall9 hb4
    clear hb4
    rw [st] at p4
    by_cases t14 : kd = 14
    · have hr := HR3.out
      rw [if_pos t14] at hr
      subst hr
      have t14' : (kd == 14) = true := by simpa using t14
      have HKX : Hid (RCallAt (w4.setCell ⟨b, 4, none⟩ (.int .i64 4)) b { k with state := 4 }) := HK4.out.set 4 _ (fun _ _ => rfl) rfl rfl
      have HUX : Hid (Upd [b] w (w4.setCell ⟨b, 4, none⟩ (.int .i64 4))) := HU4B.out.setCell _ (.inl (by simp))
      clear HR3 t14 st
      go_wp2_with fail
      go_ret
      exact ⟨⟨_, [], rfl, RSaysAt.nil _, (by simp), HKX.out, HUX.out⟩⟩
    have hr := HR3.out
    rw [if_neg t14, K.handle, if_neg (by rw [st]; rintro (h | ⟨h, _⟩) <;> cases h), if_neg (by rw [st]; rintro ⟨h, _⟩; cases h)] at hr
    have t14' : (kd == 14) = false := by simpa using t14
    by_cases t15 : kd = 15
    · rw [if_pos ⟨st, t15⟩] at hr
      have hmin : min (k.wens + 1) 2147483647 = k.wens + 1 := by omega
      rw [hmin] at hr
      subst hr
      have t15' : (kd == 15) = true := by simpa using t15
      have HKX : Hid (RCallAt (w4.setCell ⟨b, 7, none⟩ (.int .i64 (k.wens + 1))) b { k with wens := k.wens + 1 }) := HK4.out.set 7 _ (fun _ _ => rfl) rfl rfl
      have HUX : Hid (Upd [b] w (w4.setCell ⟨b, 7, none⟩ (.int .i64 (k.wens + 1)))) := HU4B.out.setCell _ (.inl (by simp))
      have hww : IntKind.i64.wrap (k.wens + 1) = k.wens + 1 := IntWalk.i64_in _ (by omega)
      clear HR3 t14 st t15 hmin
      go_wp2_with fail
      go_ret
      exact ⟨⟨_, [], rfl, RSaysAt.nil _, (by simp), HKX.out, HUX.out⟩⟩
    rw [if_neg (fun h => t15 h.2)] at hr
    have t15' : (kd == 15) = false := by simpa using t15
    by_cases t16 : kd = 16
    · rw [if_pos ⟨st, t16⟩] at hr
      have hmin : min (k.slis + 1) 2147483647 = k.slis + 1 := by omega
      rw [hmin] at hr
      subst hr
      have t16' : (kd == 16) = true := by simpa using t16
      have HKX : Hid (RCallAt (w4.setCell ⟨b, 8, none⟩ (.int .i64 (k.slis + 1))) b { k with slis := k.slis + 1 }) := HK4.out.set 8 _ (fun _ _ => rfl) rfl rfl
      have HUX : Hid (Upd [b] w (w4.setCell ⟨b, 8, none⟩ (.int .i64 (k.slis + 1)))) := HU4B.out.setCell _ (.inl (by simp))
      have hww : IntKind.i64.wrap (k.slis + 1) = k.slis + 1 := IntWalk.i64_in _ (by omega)
      clear HR3 t14 st t15 t16 hmin
      go_wp2_with fail
      go_ret
      exact ⟨⟨_, [], rfl, RSaysAt.nil _, (by simp), HKX.out, HUX.out⟩⟩
    rw [if_neg (fun h => t16 h.2)] at hr
    subst hr
    have t16' : (kd == 16) = false := by simpa using t16
    clear HR3 t14 st t15 t16
    go_wp2_with fail
    go_ret
    exact ⟨⟨_, [], rfl, RSaysAt.nil _, (by simp), HK4.out, HU4B.out⟩⟩
end Go.Proofs.YtglafpdealjlnaaGreat
