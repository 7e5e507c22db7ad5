/- The walk of chapter 21's TunnelBoth. -/
import Derived.Test.YtolfjfkkbhbbbaaGreatQTunBo
namespace Go.Proofs.YtolfjfkkbhbbbaaGreat
open Go.RowKit
set_option linter.unusedSimpArgs false
set_option linter.unusedVariables false
set_option maxRecDepth 100000
theorem str_neq {s t : ByteArray} (h : s ≠ t) : (s.toList == t.toList) = false := by
  rw [beq_eq_false_iff_ne]
  intro h2
  exact h (str_inj'.1 h2)

set_option maxHeartbeats 4000000 in
theorem tunnelBoth_any (l m : List Int) (v u : Value) (w : World) (hl : IntsAt w v l) (hm : IntsAt w u m) (hlr : ∀ x ∈ l, -9223372036854775808 ≤ x ∧ x < 9223372036854775808) (hmr : ∀ x ∈ m, -9223372036854775808 ≤ x ∧ x < 9223372036854775808) :
    Calls Tryz.prog 4 #[v, u] w (AliveEnd w) := by
  have HAL := Lib.hid alive21_any
  have HL := Lib.hid (And.intro hl hlr)
  have HM := Lib.hid (And.intro hm hmr)
  obtain ⟨ao, cap, rfl, -, -, -⟩ := hl
  obtain ⟨bo, cbp, rfl, -, -, -⟩ := hm
  obtain ⟨nl, hnl⟩ : ∃ n, l.length = n := ⟨_, rfl⟩
  obtain ⟨nm, hnm⟩ : ∃ n, m.length = n := ⟨_, rfl⟩
  have HNL := Lib.hid (And.intro hnl hnm)
  rw [hnl] at HL
  rw [hnm] at HM
  rw [hnl, hnm]
  clear hnl hnm hlr hmr
  by_cases c1 : nl ≤ 40
  case neg =>
    go_enter Tryz.func4, Tryz.ntmps4
    go_wp2_with fail
    refine (HAL.out _).mono ?_
    rintro e w1 ⟨rfl, u1⟩
    go_wp2_with fail
    go_ret
    exact ⟨rfl, u1⟩
  by_cases c2 : nm ≤ 40
  case neg =>
    go_enter Tryz.func4, Tryz.ntmps4
    go_wp2_with fail
    refine (HAL.out _).mono ?_
    rintro e w1 ⟨rfl, u1⟩
    go_wp2_with fail
    go_ret
    exact ⟨rfl, u1⟩
  have HTL : Hid (∀ W, Upd [] w W → Calls Tryz.prog 19 #[.slice ao nl cap] W (TapeNew W l)) := fun W hW => tapeNew_any l _ W (HL.out.1.upd hW) (by have := HNL.out.1; omega) HL.out.2
  have HTM : Hid (∀ W, Upd [] w W → Calls Tryz.prog 19 #[.slice bo nm cbp] W (TapeNew W m)) := fun W hW => tapeNew_any m _ W (HM.out.1.upd hW) (by have := HNL.out.2; omega) HM.out.2
  go_enter Tryz.func4, Tryz.ntmps4
  go_wp2_with fail
  refine (config_any ⟨#[97]⟩ ⟨#[115]⟩ 5 _).mono ?_
  rintro e w1 ⟨rfl, u1⟩
  have U1 := Lib.hid u1
  clear u1
  go_wp2_with fail
  refine (HTL.out _ U1.out).mono ?_
  rintro e w2 ⟨⟨bd, od, rfl, hd, hn⟩, u2⟩
  have U2 := Lib.hid (U1.out.trans u2)
  have HD := Lib.hid hd
  have HN := Lib.hid hn
  clear u2 hd hn
  go_wp2_with fail
  refine (tnew_any ⟨#[97]⟩ ⟨#[115]⟩ 5 4 10 3 3 20 (by decide) (by decide) (by decide) (by omega) (by omega) (by omega) (by omega) law_ok HD.out).mono ?_
  rintro e w3 ⟨⟨pa, oa, rfl, ha, hg⟩, u3⟩
  have HA : Hid (TunAt w3 pa (bothA l) oa) := ha
  have HAN : Hid (∀ k ∈ oa, w.heap.size ≤ k) := fun k hk => by
    rcases hg k hk with h | h
    · exact Nat.le_trans U1.out.size (HN.out k h)
    · exact Nat.le_trans U2.out.size h
  have U3 := Lib.hid (U2.out.trans u3)
  clear ha hg u3 HN HD
  go_wp2_with fail
  refine (config_any ⟨#[98]⟩ ⟨#[115]⟩ 9 _).mono ?_
  rintro e w4 ⟨rfl, u4⟩
  have V4 := Lib.hid u4
  have U4 := Lib.hid (U3.out.trans u4)
  clear u4
  go_wp2_with fail
  refine (HTM.out _ U4.out).mono ?_
  rintro e w5 ⟨⟨bd, od, rfl, hd, hn⟩, u5⟩
  have HD := Lib.hid hd
  have HN := Lib.hid hn
  have V5 := Lib.hid (V4.out.trans u5)
  clear u5 hd hn
  go_wp2_with fail
  refine (tnew_any ⟨#[98]⟩ ⟨#[115]⟩ 9 4 10 3 3 20 (by decide) (by decide) (by decide) (by omega) (by omega) (by omega) (by omega) law_ok HD.out).mono ?_
  rintro e w6 ⟨⟨pb, ob, rfl, hb, hg⟩, u6⟩
  have HB : Hid (TunAt w6 pb (bothB m) ob) := hb
  have HBN : Hid (∀ k ∈ ob, w3.heap.size ≤ k) := fun k hk => by
    rcases hg k hk with h | h
    · exact Nat.le_trans V4.out.size (HN.out k h)
    · exact Nat.le_trans V5.out.size h
  have V6 := Lib.hid (V5.out.trans u6)
  clear hb hg u6 HN HD
  have H6 : Hid (Two w w6 pa pb (bothA l) (bothB m)) := ⟨⟨oa, ob, HA.out.keep V6.out, HB.out, fun k hk hk2 => by have := HA.out.lt k hk; have := HBN.out k hk2; omega, HAN.out, fun k hk => Nat.le_trans U3.out.size (HBN.out k hk)⟩, U3.out.trans V6.out⟩
  have HOA : Hid ((bothA l).open_ = (openC (bothA l), 0)) := open_eq (bothA_start l)
  have HOB : Hid ((bothB m).open_ = (openC (bothB m), 0)) := open_eq (bothB_start m)
  have HGA := Lib.hid (bothA_good l)
  have HGB := Lib.hid (bothB_good m)
  have HGA1 : Hid ((openC (bothA l)).Good 29999) := by have h := (bothA_good l).open_ (N := 29999); rw [HOA.out] at h; exact h
  have HGB1 : Hid ((openC (bothB m)).Good 29999) := by have h := (bothB_good m).open_ (N := 29999); rw [HOB.out] at h; exact h
  have HO1 : Hid ((openC (bothA l)).out = (O2 (bothA l), [sayM 0 ⟨0, 0, bodyC 0 (L1 (bothA l))⟩])) := out1 (bothA_start l) rfl
  have HO2 : Hid ((openC (bothB m)).out = (O2 (bothB m), [sayM 0 ⟨0, 0, bodyC 0 (L1 (bothB m))⟩])) := out1 (bothB_start m) rfl
  have HGA2 : Hid ((O2 (bothA l)).Good 29999) := by have h := HGA1.out.out; rw [HO1.out] at h; exact h
  have HGB2 : Hid ((O2 (bothB m)).Good 29999) := by have h := HGB1.out.out; rw [HO2.out] at h; exact h
  have HZA : Hid ((sayM 0 ⟨0, 0, bodyC 0 (L1 (bothA l))⟩).size ≤ 1600) := sayM_size _ _ (.inr (by have := bodyC_size (L1_parts (bothA_start l)).1 0; dsimp only; omega))
  have HZB : Hid ((sayM 0 ⟨0, 0, bodyC 0 (L1 (bothB m))⟩).size ≤ 1600) := sayM_size _ _ (.inr (by have := bodyC_size (L1_parts (bothB_start m)).1 0; dsimp only; omega))
  have HBO := Lib.hid (both_ok l m)
  have HGA3 := Lib.hid (HGA2.out.take (N := 29998) (sayM 0 ⟨0, 0, bodyC 0 (L1 (bothB m))⟩))
  have HGB3 := Lib.hid (HGB2.out.take (N := 29998) (sayM 0 ⟨0, 0, bodyC 0 (L1 (bothA l))⟩))
  generalize sayM 0 ⟨0, 0, bodyC 0 (L1 (bothA l))⟩ = mA at *
  generalize sayM 0 ⟨0, 0, bodyC 0 (L1 (bothB m))⟩ = mB at *
  generalize O2 (bothA l) = A2 at *
  generalize O2 (bothB m) = B2 at *
  generalize openC (bothA l) = A1 at *
  generalize openC (bothB m) = B1 at *
  generalize bothA l = A0 at *
  generalize bothB m = B0 at *
  clear HA HB HAN HBN V4 V5 V6 U1 U2 U3 U4
  go_wp2_with fail
  refine (H6.out.openA HGA.out).mono ?_
  rintro e w7 ⟨rfl, h7⟩
  rw [HOA.out] at h7
  simp only [HOA.out]
  have H7 := Lib.hid h7
  clear h7
  go_wp2_with fail
  refine (H7.out.swap.openA HGB.out).mono ?_
  rintro e w8 ⟨rfl, h8⟩
  rw [HOB.out] at h8
  simp only [HOB.out]
  have H8 := Lib.hid h8.swap.none
  clear h8
  go_wp2_with fail
  refine (H8.out.outA HGA1.out HO1.out).mono ?_
  rintro e w9 ⟨⟨gx, ox, cx, rfl, hcx, h9, x9⟩, -⟩
  have H9 := Lib.hid h9
  have X9 := Lib.hid x9
  clear h9 x9
  go_wp2_with fail
  refine (H9.out.swap.outA HGB1.out HO2.out).mono ?_
  rintro e w10 ⟨⟨gy, oy, cy, rfl, hcy, h10, y10⟩, st10⟩
  have H10 := Lib.hid h10.swap
  have Y10 := Lib.hid y10
  have X10 := Lib.hid (st10.cell (by simp) X9.out)
  clear h10 st10
  go_wp2_with fail
  refine (H10.out.takeA mB (by have := HZB.out; omega) HGA2.out).mono ?_
  rintro e w11 ⟨⟨ux, rfl⟩, h11, st11⟩
  have H11 := Lib.hid h11
  have x11 := st11.cell (by simp) X10.out
  clear h11 st11 y10
  go_wp2_with fail
  refine (H11.out.swap.takeA mA (by have := HZA.out; omega) HGB2.out).mono ?_
  rintro e w12 ⟨⟨uy, rfl⟩, h12, -⟩
  have H12 : Hid (Met w w12 pa pb ((A2.take mB).1, (B2.take mA).1) (1000 + 42 * 4)) := ⟨h12.swap.two, HGA3.out.less (by omega), HGB3.out.less (by omega)⟩
  clear h12 x11
  generalize (A2.take mB).1 = A3 at *
  generalize (B2.take mA).1 = B3 at *
  have HME := Lib.hid (meet_any 4 (by omega) H12.out)
  have HEQ : Hid (Tp.str 8 ⟨l, 0⟩ = Tp.str 8 ⟨m, 0⟩ → (meetN 4 (A3, B3)).1.state = 4 ∧ (meetN 4 (A3, B3)).2.state = 4) := HBO.out.eq
  have HNE : Hid (Tp.str 8 ⟨l, 0⟩ ≠ Tp.str 8 ⟨m, 0⟩ → (meetN 4 (A3, B3)).1.state = 3 ∧ (meetN 4 (A3, B3)).2.state = 3 ∧ (meetN 4 (A3, B3)).1.cid = (meetN 4 (A3, B3)).2.id ∧ (meetN 4 (A3, B3)).1.id = (meetN 4 (A3, B3)).2.cid) := HBO.out.ne
  clear HBO
  generalize meetN 4 (A3, B3) = q at *
  obtain ⟨A4, B4⟩ := q
  dsimp only at HEQ HNE
  clear H6 H7 H8 H9 H10 H11 X9 X10 Y10
  go_wp2_with fail
  refine HME.out.mono ?_
  rintro e w13 ⟨rfl, h13⟩
  have H13 := Lib.hid h13.two
  clear h13 HME H12
  go_wp2_with fail
  refine (HTL.out _ H13.out.u).mono ?_
  rintro e w14 ⟨⟨bx, ox1, rfl, hx, hnx⟩, u14⟩
  have HX := Lib.hid hx
  have HNX := Lib.hid hnx
  have U14 := Lib.hid u14
  clear hx hnx u14
  go_wp2_with fail
  refine (bytes_any 8 (by omega) HX.out (by dsimp only; omega)).mono ?_
  rintro e w15 ⟨rfl, -, u15⟩
  have H15 := Lib.hid (H13.out.keep (U14.out.trans' u15 (fun x hx => .inr (HNX.out x hx))))
  clear u15 HX HNX U14
  go_wp2_with fail
  refine (HTM.out _ H15.out.u).mono ?_
  rintro e w16 ⟨⟨by_, oy1, rfl, hx, hnx⟩, u14⟩
  have HX := Lib.hid hx
  have HNX := Lib.hid hnx
  have U14 := Lib.hid u14
  clear hx hnx u14
  go_wp2_with fail
  refine (bytes_any 8 (by omega) HX.out (by dsimp only; omega)).mono ?_
  rintro e w17 ⟨rfl, -, u15⟩
  have H17 := Lib.hid (H15.out.keep (U14.out.trans' u15 (fun x hx => .inr (HNX.out x hx))))
  clear u15 HX HNX U14
  generalize Tp.str 8 ⟨l, 0⟩ = x at *
  generalize Tp.str 8 ⟨m, 0⟩ = y at *
  by_cases hxy : x = y
  · obtain ⟨f1, f2⟩ := HEQ.out hxy
    have F := Lib.hid (And.intro f1 f2)
    subst hxy
    clear f1 f2 HEQ HNE
    go_wp2_with fail
    refine (HAL.out _).mono ?_
    rintro e w18 ⟨rfl, u18⟩
    have H18 := Lib.hid (H17.out.keep u18)
    clear u18
    go_wp2_with fail
    refine H18.out.stateA.mono ?_
    rintro e w19 ⟨rfl, rfl⟩
    rw [F.out.1]
    go_wp2_with fail
    refine H18.out.swap.stateA.mono ?_
    rintro e w19 ⟨rfl, rfl⟩
    rw [F.out.2]
    go_wp2_with fail
    go_ret
    exact ⟨rfl, H18.out.u⟩
  · have F := Lib.hid (HNE.out hxy)
    have hst := str_neq hxy
    clear hxy HEQ HNE
    go_wp2_with fail
    refine H17.out.idsA.mono ?_
    rintro e w18 ⟨rfl, h18⟩
    have H18 := Lib.hid h18
    clear h18
    go_wp2_with fail
    refine H18.out.swap.idsA.mono ?_
    rintro e w19 ⟨rfl, h19⟩
    have H19 := Lib.hid h19.swap
    clear h19
    go_wp2_with fail
    refine (HAL.out _).mono ?_
    rintro e w20 ⟨rfl, u20⟩
    have H20 := Lib.hid (H19.out.keep u20)
    clear u20
    go_wp2_with fail
    refine H20.out.stateA.mono ?_
    rintro e w21 ⟨rfl, rfl⟩
    rw [F.out.1]
    go_wp2_with fail
    refine H20.out.swap.stateA.mono ?_
    rintro e w21 ⟨rfl, rfl⟩
    rw [F.out.2.1]
    have e1 := F.out.2.2.1
    have e2 := F.out.2.2.2
    go_wp2_with fail
    go_ret
    exact ⟨by simp, H20.out.u⟩
theorem tunnelBoth_walk {H : Type} {enc : TypeId × Value → H} {v0 v1 : Value} {d0 d1 : DataW H} {p0 p1 : List MemPlace} {W : World} {base : Nat}
    (h0 : DataW.Trod enc Tryz.prog W 0 (fun _ => true) true 33 v0 d0 p0) (o0 : Value.okWide Tryz.prog W .any base 33 v0)
    (h1 : DataW.Trod enc Tryz.prog W 0 (fun _ => true) true 33 v1 d1 p1) (o1 : Value.okWide Tryz.prog W .any base 33 v1) :
    Calls Tryz.prog 4 #[v0, v1] W fun e w' => e = .returned (.bool true) ∧ Below W.heap.size W w' := by
  obtain ⟨l, hl, hlr⟩ := ints_in h0 o0
  obtain ⟨m, hm, hmr⟩ := ints_in h1 o1
  exact (tunnelBoth_any l m v0 v1 W hl hm hlr hmr).mono fun e w' ⟨he, hu⟩ => ⟨he, hu.below⟩
end Go.Proofs.YtolfjfkkbhbbbaaGreat
