/- The walk of the document's own Put (chapter 18). -/
import Derived.Test.YtglafpdealjlnaaGreatQAvpP
import Derived.Test.YtglafpdealjlnaaGreatQRAvA
import Derived.Test.YtglafpdealjlnaaGreatQRMdC
namespace Go.Proofs.YtglafpdealjlnaaGreat
open Go.RowKit
set_option linter.unusedSimpArgs false
set_option linter.unusedVariables false
set_option maxRecDepth 100000

def AvArg (x : Av) : Prop := (0 ≤ x.vendor ∧ x.vendor ≤ 65535) ∧ (0 ≤ x.kind ∧ x.kind ≤ 65535)
instance (x : Av) : Decidable (AvArg x) := by unfold AvArg; exact inferInstance
theorem not_arg {x : Av} (h : ¬ AvArg x) : x.vendor < 0 ∨ (¬ x.vendor < 0 ∧ 65535 < x.vendor) ∨ (¬ x.vendor < 0 ∧ ¬ 65535 < x.vendor ∧ x.kind < 0) ∨ (¬ x.vendor < 0 ∧ ¬ 65535 < x.vendor ∧ ¬ x.kind < 0 ∧ 65535 < x.kind) := by
  unfold AvArg at h
  omega
theorem nil_str : (⟨#[]⟩ : ByteArray) = ByteArray.empty := rfl
theorem vec_take_size (l : List Av) (k : Nat) {v : ByteArray} {b : Bool} (h : vec (l.take k) = (v, b)) (m : Nat) (hm : ∀ a ∈ l.take k, a.val.size ≤ m) : v.size ≤ m := by
  have := vec_size (l.take k) m hm
  rw [h] at this
  exact this

set_option maxHeartbeats 8000000 in
theorem rput18_any (l : List Av) (v : Value) (secret : ByteArray) (w : World) (hl : AvsAt w v l) (hs : secret.size ≤ 400000) :
    Calls Tryz.prog 84 #[v, .string secret] w fun e w' => e = .returned (.tuple #[.string (putA l secret).1, .int .i64 (putA l secret).2]) ∧ Upd [] w w' := by
  obtain ⟨ao, cap, rfl, h1, h2, h3⟩ := id hl
  obtain ⟨n, hn⟩ : ∃ n, n = l.length := ⟨_, rfl⟩
  obtain ⟨R, hR⟩ : ∃ R, putA l secret = R := ⟨_, rfl⟩
  rw [hR]
  have HR : Hid ((if 40 < n then (⟨#[]⟩, 2) else putFromA secret [] l ⟨#[]⟩) = R) := by show _ = _; rw [← hR, putA, hn]
  clear hR
  rw [← hn] at h1
  rw [← hn]
  have HL := Lib.hid hl
  have HN := Lib.hid hn
  simp only [maxLen] at h2
  clear h3 hl hn
  by_cases t1 : 40 < n
  · have hr := HR.out
    rw [if_pos t1] at hr
    subst hr
    clear HR
    have t1' : (40 : Int) < n := by omega
    go_enter Tryz.func84, Tryz.ntmps84
    go_wp2_with fail
    go_ret2
    exact ⟨rfl, Upd.refl _ _⟩
  have HR2 : Hid (putFromA secret [] l ⟨#[]⟩ = R) := (if_neg t1).symm.trans HR.out
  have t1' : ¬ (40 : Int) < n := by omega
  clear HR
  go_enter Tryz.func84, Tryz.ntmps84
  go_wp2_with fail
  go_loopg [6, 7, 8, 9] n (fun m s6 s7 s8 s9 wr => ∃ (k : Nat) (out vv : ByteArray) (vb : Bool), k + m = n ∧ s6 = .string out ∧ s7 = .string vv ∧ s8 = .bool vb ∧ s9 = .int .i64 k ∧ vec (l.take k) = (vv, vb) ∧ out.size ≤ 2000 * k ∧ (∀ a ∈ l.take k, a.val.size ≤ 1000) ∧ putFromA secret (l.take k) (l.drop k) out = R ∧ Upd [] w wr)
  case atStart => exact ⟨0, ⟨#[]⟩, ⟨#[]⟩, false, by omega, rfl, rfl, rfl, rfl, rfl, Nat.le_refl _, by simp, HR2.out, Upd.refl _ _⟩
  case round =>
    obtain ⟨k, out, vv, vb, hk, rfl, rfl, rfl, rfl, hv, ho, hall, hp, hu⟩ := hrel
    clear HR2
    have HU := Lib.hid hu
    clear hu
    by_cases t : k < n
    · obtain ⟨x, hx⟩ : ∃ x, l[k]? = some x := by
        have := HN.out
        exact ⟨_, List.getElem?_eq_getElem (by omega)⟩
      have hd : l.drop k = x :: l.drop (k + 1) := by
        obtain ⟨h5, h6⟩ := List.getElem?_eq_some_iff.1 hx
        rw [List.drop_eq_getElem_cons h5, h6]
      have htk : l.take k ++ [x] = l.take (k + 1) := by rw [List.take_add_one, hx]; rfl
      rw [hd, putFromA, htk] at hp
      have hvs := vec_take_size l k hv 1000 hall
      have HV2 : Hid (vec (l.take (k + 1)) = if isVec x = true then (x.val, true) else (vv, vb)) := by show _ = _; rw [← htk, vec_snoc, hv]
      have HCE : Hid (contentA x (l.take k) secret = (if ¬ AvArg x then (⟨#[]⟩, 1)
        else if 1000 < x.val.size then (⟨#[]⟩, 2)
        else if x.hidden = false then (x.val, 0)
        else if secret.size = 0 then (⟨#[]⟩, 30)
        else if vb = false then (⟨#[]⟩, 40)
        else (maskB false x.kind secret vv (be 2 x.val.size ++ x.val), 0))) := by show _ = _; rw [contentA, hv]; rfl
      have HP := Lib.hid hp
      have HALL := Lib.hid hall
      have HX := Lib.hid hx
      obtain ⟨ao', cap', e0, _, _, h3⟩ := HL.out.upd HU.out
      injection e0 with e0 _ e2
      subst e0 e2
      obtain ⟨q, rfl, c0, c1, c2, c3, c4⟩ := h3 k x hx
      clear h3 hd htk hp hall hx hv
      obtain ⟨xm, xh, xv, xk, xs⟩ := x
      dsimp only at c0 c1 c2 c3 c4
      have B0 := Blk.new wr 85 #[.bool xm, .bool xh, .int .i64 xv, .int .i64 xk, .string xs]
      have HU2 : Hid (Upd [] w (wr.alloc (Obj.cells #[.bool xm, .bool xh, .int .i64 xv, .int .i64 xk, .string xs] 85))) := HU.out.alloc _
      by_cases g1 : AvArg ⟨xm, xh, xv, xk, xs⟩
      rotate_left
      · have hc := HCE.out
        rw [if_pos g1] at hc
        have hp := HP.out
        rw [hc, if_pos (by decide)] at hp
        have hr : R = (⟨#[]⟩, 1) := hp.symm
        subst hr
        have g2 := not_arg g1
        dsimp only at g2
        clear hc hp HP HCE HV2 g1
        rcases g2 with k1 | ⟨k0, k1⟩ | ⟨k0, k1, k2⟩ | ⟨k0, k1, k2, k3⟩
        all_goals
          go_wp2_with fail
          go_ret2
          exact ⟨rfl, HU2.out⟩
      have hg := g1
      obtain ⟨⟨g2, g3⟩, g4, g5⟩ := hg
      dsimp only at g2 g3 g4 g5
      have k0 : ¬ xv < 0 := by omega
      have k1 : ¬ 65535 < xv := by omega
      have k2 : ¬ xk < 0 := by omega
      have k3 : ¬ 65535 < xk := by omega
      have HCE2 : Hid (contentA ⟨xm, xh, xv, xk, xs⟩ (l.take k) secret = (if 1000 < xs.size then (⟨#[]⟩, 2)
        else if xh = false then (xs, 0)
        else if secret.size = 0 then (⟨#[]⟩, 30)
        else if vb = false then (⟨#[]⟩, 40)
        else (maskB false xk secret vv (be 2 xs.size ++ xs), 0))) := HCE.out.trans (if_neg (fun h => h g1))
      clear HCE g1
      by_cases g6 : 1000 < xs.size
      · have hc := HCE2.out
        rw [if_pos g6] at hc
        have hp := HP.out
        rw [hc, if_pos (by decide)] at hp
        have hr : R = (⟨#[]⟩, 2) := hp.symm
        subst hr
        have g6' : (1000 : Int) < xs.size := by omega
        clear hc hp HP HCE2 HV2
        go_wp2_with fail
        go_ret2
        exact ⟨rfl, HU2.out⟩
      have g6' : ¬ (1000 : Int) < xs.size := by omega
      have HCE3 : Hid (contentA ⟨xm, xh, xv, xk, xs⟩ (l.take k) secret = (if xh = false then (xs, 0)
        else if secret.size = 0 then (⟨#[]⟩, 30)
        else if vb = false then (⟨#[]⟩, 40)
        else (maskB false xk secret vv (be 2 xs.size ++ xs), 0))) := HCE2.out.trans (if_neg g6)
      clear HCE2
      have HFL : Hid (flagsA ⟨xm, xh, xv, xk, xs⟩ = (if xm = true then 32768 else 0) + (if xh = true then 16384 else 0)) := rfl
      go_upto_if 51 with (fail)
      generalize hw2 : wr.alloc (Obj.cells #[.bool xm, .bool xh, .int .i64 xv, .int .i64 xk, .string xs] 85) = w2 at *
      clear hw2 c0 c1 c2 c3 c4
      obtain ⟨fm, hfm⟩ : ∃ y : Int, (if xm = true then 32768 else 0) = y := ⟨_, rfl⟩
      have hfm2 : fm = 0 ∨ fm = 32768 := by rw [← hfm]; cases xm <;> simp
      have HFM := Lib.hid hfm
      clear hfm
      have hcells : ∀ W, Upd [] w2 W → W.cell? ⟨wr.heap.size, 0, none⟩ = some (.bool xm) ∧ W.cell? ⟨wr.heap.size, 1, none⟩ = some (.bool xh) ∧ W.cell? ⟨wr.heap.size, 2, none⟩ = some (.int .i64 xv) ∧ W.cell? ⟨wr.heap.size, 3, none⟩ = some (.int .i64 xk) ∧ W.cell? ⟨wr.heap.size, 4, none⟩ = some (.string xs) := fun W hu =>
        ⟨(B0.upd hu (by simp)).cell 0, (B0.upd hu (by simp)).cell 1, (B0.upd hu (by simp)).cell 2, (B0.upd hu (by simp)).cell 3, (B0.upd hu (by simp)).cell 4⟩
      have HCC := Lib.hid hcells
      clear hcells
      go_cut [12] from 16 to 104 (fun s12 V => s12 = .int .i64 fm ∧ w2 = V)
      case first =>
        obtain ⟨c0, c1, c2, c3, c4⟩ := HCC.out w2 (Upd.refl _ _)
        have hfm := HFM.out
        cases xm
        · obtain rfl : (0 : Int) = fm := by simpa using hfm
          go_wp2_with fail
          go_meet
          case rel => exact ⟨rfl, rfl⟩
        · obtain rfl : (32768 : Int) = fm := by simpa using hfm
          go_wp2_with fail
          go_meet
          case rel => exact ⟨rfl, rfl⟩
      case rest =>
      obtain ⟨rfl, rfl⟩ := hcut
      have HCE4 : Hid (∃ c e, contentA ⟨xm, xh, xv, xk, xs⟩ (l.take k) secret = (c, e)) := ⟨_, _, rfl⟩
      have HVK := Lib.hid (vec_snoc (l.take k) ⟨xm, xh, xv, xk, xs⟩)
      by_cases g7 : xh = true ∧ (secret.size = 0 ∨ vb = false)
      · obtain ⟨rfl, g8⟩ := g7
        obtain ⟨c0, c1, c2, c3, c4⟩ := HCC.out w2 (Upd.refl _ _)
        by_cases g9 : secret.size = 0
        · have e0 := str_empty_t g9
          have hc := HCE3.out
          rw [if_neg (by simp), if_pos g9] at hc
          have hp := HP.out
          rw [hc, if_pos (by decide)] at hp
          have hr : R = (⟨#[]⟩, 30) := hp.symm
          subst hr
          clear hc hp HP HCE3 HV2 g8 g9 HCE4
          go_wp2_with fail
          go_ret2
          exact ⟨rfl, HU2.out⟩
        · have e0 := str_empty_f g9
          have hvb : vb = false := by rcases g8 with h | h; exact absurd h g9; exact h
          subst hvb
          have hc := HCE3.out
          rw [if_neg (by simp), if_neg g9, if_pos rfl] at hc
          have hp := HP.out
          rw [hc, if_pos (by decide)] at hp
          have hr : R = (⟨#[]⟩, 40) := hp.symm
          subst hr
          clear hc hp HP HCE3 HV2 g8 g9 HCE4
          go_wp2_with fail
          go_ret2
          exact ⟨rfl, HU2.out⟩
      obtain ⟨c, hc⟩ : ∃ c, contentA ⟨xm, xh, xv, xk, xs⟩ (l.take k) secret = (c, 0) := by
        rw [HCE3.out]
        by_cases h : xh = false
        · rw [if_pos h]; exact ⟨_, rfl⟩
        · rw [if_neg h]
          have h2 : xh = true := by cases xh; exact absurd rfl h; rfl
          rw [if_neg (fun h3 => g7 ⟨h2, .inl h3⟩), if_neg (fun h3 => g7 ⟨h2, .inr h3⟩)]
          exact ⟨_, rfl⟩
      have hcz : c.size ≤ 1002 := by
        have := contentA_size (a := ⟨xm, xh, xv, xk, xs⟩) (pre := l.take k) (secret := secret) (by rw [hc])
        rw [hc] at this
        exact this
      have hp := HP.out
      rw [hc, if_neg (by simp)] at hp
      dsimp only at hp
      have HP2 := Lib.hid hp
      have HC3 : Hid ((if xh = false then (xs, (0 : Int)) else if secret.size = 0 then (⟨#[]⟩, 30) else if vb = false then (⟨#[]⟩, 40) else (maskB false xk secret vv (be 2 xs.size ++ xs), 0)) = (c, 0)) := HCE3.out.symm.trans hc
      clear hp HP HCE3 HCE4 hc
      obtain ⟨fl, hfl⟩ : ∃ y : Int, fm + (if xh = true then 16384 else 0) = y := ⟨_, rfl⟩
      have hfl2 : 0 ≤ fl ∧ fl ≤ 49152 := by rw [← hfl]; split <;> omega
      have HFL2 : Hid (flagsA ⟨xm, xh, xv, xk, xs⟩ = fl) := by show _ = _; rw [HFL.out, HFM.out, hfl]
      have HFF := Lib.hid hfl
      clear hfl HFL
      obtain ⟨c0, c1, c2, c3, c4⟩ := HCC.out w2 (Upd.refl _ _)
      go_upto_if 55 with (fail)
      clear c0 c1 c2 c3 c4
      go_cut [11, 12] from 16 to 104 (fun s11 s12 V => s11 = .string c ∧ s12 = .int .i64 fl ∧ Upd [] w2 V)
      case first =>
        have hfl := HFF.out
        have hc3 := HC3.out
        cases xh
        · obtain rfl : fm = fl := by simpa using hfl
          rw [if_pos rfl] at hc3
          obtain rfl : xs = c := by injection hc3
          clear hfl hc3 g7 HC3 HFF
          go_wp2_with fail
          go_meet
          case rel => exact ⟨rfl, rfl, Upd.refl _ _⟩
        · have g8 : ¬ secret.size = 0 := fun h => g7 ⟨rfl, .inl h⟩
          have g9 : vb = true := by cases vb; exact absurd ⟨rfl, .inr rfl⟩ g7; rfl
          subst g9
          have e0 := str_empty_f g8
          rw [if_neg (by simp), if_neg g8, if_neg (by simp)] at hc3
          have HCM : Hid (maskB false xk secret vv (be 2 xs.size ++ xs) = c) := by injection hc3
          obtain rfl : fm + 16384 = fl := by simpa using hfl
          clear hfl hc3 g7 HC3 HFF g8
          have HT := Lib.hid (rtwo_any xs.size (by omega))
          have hbz := be_size 2 xs.size
          obtain ⟨y, hy⟩ : ∃ y, be 2 xs.size = y := ⟨_, rfl⟩
          rw [hy] at HT HCM hbz
          clear hy
          have HM := Lib.hid (rMask_any xk secret vv (y ++ xs) (by omega) hs (by omega) (by rw [ByteArray.size_append]; omega))
          rw [HCM.out] at HM
          clear HCM
          go_wp2_with fail
          refine wp_region_facts (.pure) (trivial) [.is (.pointer (some ⟨wr.heap.size, 3, none⟩)), .is (.int .i64 xk), .is (.string secret), .is (.string vv), .is (.string xs), .is (.int .i64 xs.size), .is (.string y), .is (.string xs), .is (.string (y ++ xs)), .is (.string c), .is (.string c)] (by kernel_rfl) (by kernel_rfl) (by kernel_rfl) (by kernel_rfl) ?_ ?_
          · refine Steps.cons ?_ (Steps.cons ?_ (Steps.cons ?_ (Steps.cons ?_ (Steps.cons ?_ (Steps.cons ?_ (Steps.cons ?_ (Steps.cons ?_ (Steps.cons ?_ (Steps.cons ?_ (Steps.cons ?_ Steps.nil))))))))))
            · refine step_is _ rfl ⟨_, rfl⟩ rfl (fun _ _ => trivial) ?_
              intro a W hi hF hD
              have hu := hi.upd
              have e10 : a.tmps[10]?.getD undef = _ := (ev a 10).symm.trans (hF 10 (by kernel_rfl))
              clear hF hD
              have hc := HCC.out W hu
              go_simp
            · refine step_is _ rfl ⟨_, rfl⟩ rfl (fun _ _ => trivial) ?_
              intro a W hi hF hD
              have hu := hi.upd
              have e62 : a.tmps[62]?.getD undef = .pointer (some ⟨wr.heap.size, 3, none⟩) := (ev a 62).symm.trans (hD _ (Array.mem_of_getElem? (i := 0) rfl) rfl).1
              clear hF hD
              have hc := HCC.out W hu
              go_simp
            · refine step_is _ rfl ⟨_, rfl⟩ rfl (fun _ _ => trivial) ?_
              intro a W hi hF hD
              have hu := hi.upd
              have e1 : a.tmps[1]?.getD undef = _ := (ev a 1).symm.trans (hF 1 (by kernel_rfl))
              clear hF hD
              have hc := HCC.out W hu
              go_simp
            · refine step_is _ rfl ⟨_, rfl⟩ rfl (fun _ _ => trivial) ?_
              intro a W hi hF hD
              have hu := hi.upd
              have e7 : a.tmps[7]?.getD undef = _ := (ev a 7).symm.trans (hF 7 (by kernel_rfl))
              clear hF hD
              have hc := HCC.out W hu
              go_simp
            · refine step_is _ rfl ⟨_, rfl⟩ rfl (fun _ _ => trivial) ?_
              intro a W hi hF hD
              have hu := hi.upd
              have e11 : a.tmps[11]?.getD undef = _ := (ev a 11).symm.trans (hF 11 (by kernel_rfl))
              clear hF hD
              have hc := HCC.out W hu
              go_simp
            · refine step_is _ rfl ⟨_, rfl⟩ rfl (fun _ _ => trivial) ?_
              intro a W hi hF hD
              have hu := hi.upd
              have e66 : a.tmps[66]?.getD undef = .string xs := (ev a 66).symm.trans (hD _ (Array.mem_of_getElem? (i := 0) rfl) rfl).1
              clear hF hD
              have hc := HCC.out W hu
              go_simp
            · refine step_call rfl (fun _ _ => trivial) ?_
              intro a W hi hF hD
              have hu := hi.upd
              have e67 : a.tmps[67]?.getD undef = .int .i64 xs.size := (ev a 67).symm.trans (hD _ (Array.mem_of_getElem? (i := 0) rfl) rfl).1
              clear hF hD
              have hc := HCC.out W hu
              refine ⟨_, _, by (go_simp; first | done | rfl | exact ⟨rfl, rfl⟩), ?_⟩
              refine (HT.out _).mono ?_
              rintro e w2 ⟨rfl, hu2⟩
              first | exact ⟨_, rfl, hu2, rfl⟩ | (cases hu2; exact ⟨_, rfl, Upd.refl _ _, rfl⟩)
            · refine step_is _ rfl ⟨_, rfl⟩ rfl (fun _ _ => trivial) ?_
              intro a W hi hF hD
              have hu := hi.upd
              have e11 : a.tmps[11]?.getD undef = _ := (ev a 11).symm.trans (hF 11 (by kernel_rfl))
              clear hF hD
              have hc := HCC.out W hu
              go_simp
            · refine step_is _ rfl ⟨_, rfl⟩ rfl (fun _ _ => trivial) ?_
              intro a W hi hF hD
              have hu := hi.upd
              have e68 : a.tmps[68]?.getD undef = .string y := (ev a 68).symm.trans (hD _ (Array.mem_of_getElem? (i := 0) rfl) rfl).1
              have e69 : a.tmps[69]?.getD undef = .string xs := (ev a 69).symm.trans (hD _ (Array.mem_of_getElem? (i := 1) rfl) rfl).1
              clear hF hD
              have hc := HCC.out W hu
              have := run_string_add_sum (P := Tryz.prog) W y xs (by omega)
              go_simp
            · refine step_call rfl (fun _ _ => trivial) ?_
              intro a W hi hF hD
              have hu := hi.upd
              have e63 : a.tmps[63]?.getD undef = .int .i64 xk := (ev a 63).symm.trans (hD _ (Array.mem_of_getElem? (i := 0) rfl) rfl).1
              have e64 : a.tmps[64]?.getD undef = .string secret := (ev a 64).symm.trans (hD _ (Array.mem_of_getElem? (i := 1) rfl) rfl).1
              have e65 : a.tmps[65]?.getD undef = .string vv := (ev a 65).symm.trans (hD _ (Array.mem_of_getElem? (i := 2) rfl) rfl).1
              have e70 : a.tmps[70]?.getD undef = .string (y ++ xs) := (ev a 70).symm.trans (hD _ (Array.mem_of_getElem? (i := 3) rfl) rfl).1
              clear hF hD
              have hc := HCC.out W hu
              refine ⟨_, _, by (go_simp; first | done | rfl | exact ⟨rfl, rfl⟩), ?_⟩
              refine (HM.out _).mono ?_
              rintro e w2 ⟨rfl, hu2⟩
              first | exact ⟨_, rfl, hu2, rfl⟩ | (cases hu2; exact ⟨_, rfl, Upd.refl _ _, rfl⟩)
            · refine step_is _ rfl ⟨_, rfl⟩ rfl (fun _ _ => trivial) ?_
              intro a W hi hF hD
              have hu := hi.upd
              have e71 : a.tmps[71]?.getD undef = .string c := (ev a 71).symm.trans (hD _ (Array.mem_of_getElem? (i := 0) rfl) rfl).1
              clear hF hD
              have hc := HCC.out W hu
              go_simp
          intro vals W hu hv
          have v0 : vals 0 = .pointer (some ⟨wr.heap.size, 3, none⟩) := (hv 0 (by decide)).1
          have v1 : vals 1 = .int .i64 xk := (hv 1 (by decide)).1
          have v2 : vals 2 = .string secret := (hv 2 (by decide)).1
          have v3 : vals 3 = .string vv := (hv 3 (by decide)).1
          have v4 : vals 4 = .string xs := (hv 4 (by decide)).1
          have v5 : vals 5 = .int .i64 xs.size := (hv 5 (by decide)).1
          have v6 : vals 6 = .string y := (hv 6 (by decide)).1
          have v7 : vals 7 = .string xs := (hv 7 (by decide)).1
          have v8 : vals 8 = .string (y ++ xs) := (hv 8 (by decide)).1
          have v9 : vals 9 = .string c := (hv 9 (by decide)).1
          have v10 : vals 10 = .string c := (hv 10 (by decide)).1
          clear hv
          simp only [putAll, Act.put, Nat.zero_add, Nat.reduceAdd, v0, v1, v2, v3, v4, v5, v6, v7, v8, v9, v10, List.setIfInBounds_toArray, List.set_cons_zero, List.set_cons_succ]
          clear v0 v1 v2 v3 v4 v5 v6 v7 v8 v9 v10
          have HUW := Lib.hid hu
          clear hu
          go_wp2_with fail
          go_meet
          case rel => exact ⟨rfl, by go_num, HUW.out⟩
      case rest =>
      obtain ⟨rfl, rfl, hu⟩ := hcut
      have HUD := Lib.hid hu
      clear hu
      have HT1 := Lib.hid (rtwo_any (fl + c.size + 6) (by omega))
      have HT2 := Lib.hid (rtwo_any xv (by omega))
      have HT3 := Lib.hid (rtwo_any xk (by omega))
      have HE : Hid (encA ⟨xm, xh, xv, xk, xs⟩ c = be 2 (fl + c.size + 6) ++ be 2 xv ++ be 2 xk ++ c) := by show _ = _; rw [encA, HFL2.out]
      have hez := encA_size ⟨xm, xh, xv, xk, xs⟩ c
      generalize encA ⟨xm, xh, xv, xk, xs⟩ c = en at *
      have z1 := be_size 2 (fl + c.size + 6)
      have z2 := be_size 2 xv
      have z3 := be_size 2 xk
      generalize be 2 (fl + c.size + 6) = y1 at *
      generalize be 2 xv = y2 at *
      generalize be 2 xk = y3 at *
      have hw1 : IntKind.i64.wrap (fl + (c.size : Int)) = fl + c.size := IntWalk.i64_in _ (by omega)
      have hw2 : IntKind.i64.wrap (fl + (c.size : Int) + 6) = fl + c.size + 6 := IntWalk.i64_in _ (by omega)
      have HE2 : Hid (out ++ y1 ++ y2 ++ y3 ++ c = out ++ en) := by
        show _ = _
        rw [HE.out]
        simp only [ByteArray.append_assoc]
      clear HFL2 HC3 HFF HCC
      have hcells : ∀ W, Upd [] wc W → W.cell? ⟨wr.heap.size, 0, none⟩ = some (.bool xm) ∧ W.cell? ⟨wr.heap.size, 1, none⟩ = some (.bool xh) ∧ W.cell? ⟨wr.heap.size, 2, none⟩ = some (.int .i64 xv) ∧ W.cell? ⟨wr.heap.size, 3, none⟩ = some (.int .i64 xk) ∧ W.cell? ⟨wr.heap.size, 4, none⟩ = some (.string xs) := fun W hu =>
        ⟨(B0.upd (HUD.out.trans hu) (by simp)).cell 0, (B0.upd (HUD.out.trans hu) (by simp)).cell 1, (B0.upd (HUD.out.trans hu) (by simp)).cell 2, (B0.upd (HUD.out.trans hu) (by simp)).cell 3, (B0.upd (HUD.out.trans hu) (by simp)).cell 4⟩
      have HCC := Lib.hid hcells
      clear hcells
      go_wp2_with fail
      refine wp_region_facts (.pure) (trivial) [.is (.string out), .is (.int .i64 fl), .is (.string c), .is (.int .i64 c.size), .is (.int .i64 (fl + c.size)), .is (.int .i64 (fl + c.size + 6)), .is (.string y1), .is (.string (out ++ y1)), .is (.pointer (some ⟨wr.heap.size, 2, none⟩)), .is (.int .i64 xv), .is (.string y2), .is (.string (out ++ y1 ++ y2)), .is (.pointer (some ⟨wr.heap.size, 3, none⟩)), .is (.int .i64 xk), .is (.string y3), .is (.string (out ++ y1 ++ y2 ++ y3)), .is (.string c), .is (.string (out ++ en)), .is (.string (out ++ en))] (by kernel_rfl) (by kernel_rfl) (by kernel_rfl) (by kernel_rfl) ?_ ?_
      · refine Steps.cons ?_ (Steps.cons ?_ (Steps.cons ?_ (Steps.cons ?_ (Steps.cons ?_ (Steps.cons ?_ (Steps.cons ?_ (Steps.cons ?_ (Steps.cons ?_ (Steps.cons ?_ (Steps.cons ?_ (Steps.cons ?_ (Steps.cons ?_ (Steps.cons ?_ (Steps.cons ?_ (Steps.cons ?_ (Steps.cons ?_ (Steps.cons ?_ (Steps.cons ?_ Steps.nil))))))))))))))))))
        · refine step_is _ rfl ⟨_, rfl⟩ rfl (fun _ _ => trivial) ?_
          intro a W hi hF hD
          have hu := hi.upd
          have e6 : a.tmps[6]?.getD undef = _ := (ev a 6).symm.trans (hF 6 (by kernel_rfl))
          clear hF hD
          have hc := HCC.out W hu
          go_simp
        · refine step_is _ rfl ⟨_, rfl⟩ rfl (fun _ _ => trivial) ?_
          intro a W hi hF hD
          have hu := hi.upd
          have e12 : a.tmps[12]?.getD undef = _ := (ev a 12).symm.trans (hF 12 (by kernel_rfl))
          clear hF hD
          have hc := HCC.out W hu
          go_simp
        · refine step_is _ rfl ⟨_, rfl⟩ rfl (fun _ _ => trivial) ?_
          intro a W hi hF hD
          have hu := hi.upd
          have e11 : a.tmps[11]?.getD undef = _ := (ev a 11).symm.trans (hF 11 (by kernel_rfl))
          clear hF hD
          have hc := HCC.out W hu
          go_simp
        · refine step_is _ rfl ⟨_, rfl⟩ rfl (fun _ _ => trivial) ?_
          intro a W hi hF hD
          have hu := hi.upd
          have e74 : a.tmps[74]?.getD undef = .string c := (ev a 74).symm.trans (hD _ (Array.mem_of_getElem? (i := 0) rfl) rfl).1
          clear hF hD
          have hc := HCC.out W hu
          go_simp
        · refine step_is _ rfl ⟨_, rfl⟩ rfl (fun _ _ => trivial) ?_
          intro a W hi hF hD
          have hu := hi.upd
          have e73 : a.tmps[73]?.getD undef = .int .i64 fl := (ev a 73).symm.trans (hD _ (Array.mem_of_getElem? (i := 0) rfl) rfl).1
          have e75 : a.tmps[75]?.getD undef = .int .i64 c.size := (ev a 75).symm.trans (hD _ (Array.mem_of_getElem? (i := 1) rfl) rfl).1
          clear hF hD
          have hc := HCC.out W hu
          go_simp
        · refine step_is _ rfl ⟨_, rfl⟩ rfl (fun _ _ => trivial) ?_
          intro a W hi hF hD
          have hu := hi.upd
          have e76 : a.tmps[76]?.getD undef = .int .i64 (fl + c.size) := (ev a 76).symm.trans (hD _ (Array.mem_of_getElem? (i := 0) rfl) rfl).1
          clear hF hD
          have hc := HCC.out W hu
          go_simp
        · refine step_call rfl (fun _ _ => trivial) ?_
          intro a W hi hF hD
          have hu := hi.upd
          have e77 : a.tmps[77]?.getD undef = .int .i64 (fl + c.size + 6) := (ev a 77).symm.trans (hD _ (Array.mem_of_getElem? (i := 0) rfl) rfl).1
          clear hF hD
          have hc := HCC.out W hu
          refine ⟨_, _, by (go_simp; first | done | rfl | exact ⟨rfl, rfl⟩), ?_⟩
          refine (HT1.out _).mono ?_
          rintro e w2 ⟨rfl, hu2⟩
          first | exact ⟨_, rfl, hu2, rfl⟩ | (cases hu2; exact ⟨_, rfl, Upd.refl _ _, rfl⟩)
        · refine step_is _ rfl ⟨_, rfl⟩ rfl (fun _ _ => trivial) ?_
          intro a W hi hF hD
          have hu := hi.upd
          have e72 : a.tmps[72]?.getD undef = .string out := (ev a 72).symm.trans (hD _ (Array.mem_of_getElem? (i := 0) rfl) rfl).1
          have e78 : a.tmps[78]?.getD undef = .string y1 := (ev a 78).symm.trans (hD _ (Array.mem_of_getElem? (i := 1) rfl) rfl).1
          clear hF hD
          have hc := HCC.out W hu
          have := run_string_add_sum (P := Tryz.prog) W out y1 (by omega)
          go_simp
        · refine step_is _ rfl ⟨_, rfl⟩ rfl (fun _ _ => trivial) ?_
          intro a W hi hF hD
          have hu := hi.upd
          have e10 : a.tmps[10]?.getD undef = _ := (ev a 10).symm.trans (hF 10 (by kernel_rfl))
          clear hF hD
          have hc := HCC.out W hu
          go_simp
        · refine step_is _ rfl ⟨_, rfl⟩ rfl (fun _ _ => trivial) ?_
          intro a W hi hF hD
          have hu := hi.upd
          have e80 : a.tmps[80]?.getD undef = .pointer (some ⟨wr.heap.size, 2, none⟩) := (ev a 80).symm.trans (hD _ (Array.mem_of_getElem? (i := 0) rfl) rfl).1
          clear hF hD
          have hc := HCC.out W hu
          go_simp
        · refine step_call rfl (fun _ _ => trivial) ?_
          intro a W hi hF hD
          have hu := hi.upd
          have e81 : a.tmps[81]?.getD undef = .int .i64 xv := (ev a 81).symm.trans (hD _ (Array.mem_of_getElem? (i := 0) rfl) rfl).1
          clear hF hD
          have hc := HCC.out W hu
          refine ⟨_, _, by (go_simp; first | done | rfl | exact ⟨rfl, rfl⟩), ?_⟩
          refine (HT2.out _).mono ?_
          rintro e w2 ⟨rfl, hu2⟩
          first | exact ⟨_, rfl, hu2, rfl⟩ | (cases hu2; exact ⟨_, rfl, Upd.refl _ _, rfl⟩)
        · refine step_is _ rfl ⟨_, rfl⟩ rfl (fun _ _ => trivial) ?_
          intro a W hi hF hD
          have hu := hi.upd
          have e79 : a.tmps[79]?.getD undef = .string (out ++ y1) := (ev a 79).symm.trans (hD _ (Array.mem_of_getElem? (i := 0) rfl) rfl).1
          have e82 : a.tmps[82]?.getD undef = .string y2 := (ev a 82).symm.trans (hD _ (Array.mem_of_getElem? (i := 1) rfl) rfl).1
          clear hF hD
          have hc := HCC.out W hu
          have := run_string_add_sum (P := Tryz.prog) W (out ++ y1) y2 (by rw [ByteArray.size_append]; omega)
          go_simp
        · refine step_is _ rfl ⟨_, rfl⟩ rfl (fun _ _ => trivial) ?_
          intro a W hi hF hD
          have hu := hi.upd
          have e10 : a.tmps[10]?.getD undef = _ := (ev a 10).symm.trans (hF 10 (by kernel_rfl))
          clear hF hD
          have hc := HCC.out W hu
          go_simp
        · refine step_is _ rfl ⟨_, rfl⟩ rfl (fun _ _ => trivial) ?_
          intro a W hi hF hD
          have hu := hi.upd
          have e84 : a.tmps[84]?.getD undef = .pointer (some ⟨wr.heap.size, 3, none⟩) := (ev a 84).symm.trans (hD _ (Array.mem_of_getElem? (i := 0) rfl) rfl).1
          clear hF hD
          have hc := HCC.out W hu
          go_simp
        · refine step_call rfl (fun _ _ => trivial) ?_
          intro a W hi hF hD
          have hu := hi.upd
          have e85 : a.tmps[85]?.getD undef = .int .i64 xk := (ev a 85).symm.trans (hD _ (Array.mem_of_getElem? (i := 0) rfl) rfl).1
          clear hF hD
          have hc := HCC.out W hu
          refine ⟨_, _, by (go_simp; first | done | rfl | exact ⟨rfl, rfl⟩), ?_⟩
          refine (HT3.out _).mono ?_
          rintro e w2 ⟨rfl, hu2⟩
          first | exact ⟨_, rfl, hu2, rfl⟩ | (cases hu2; exact ⟨_, rfl, Upd.refl _ _, rfl⟩)
        · refine step_is _ rfl ⟨_, rfl⟩ rfl (fun _ _ => trivial) ?_
          intro a W hi hF hD
          have hu := hi.upd
          have e83 : a.tmps[83]?.getD undef = .string (out ++ y1 ++ y2) := (ev a 83).symm.trans (hD _ (Array.mem_of_getElem? (i := 0) rfl) rfl).1
          have e86 : a.tmps[86]?.getD undef = .string y3 := (ev a 86).symm.trans (hD _ (Array.mem_of_getElem? (i := 1) rfl) rfl).1
          clear hF hD
          have hc := HCC.out W hu
          have := run_string_add_sum (P := Tryz.prog) W (out ++ y1 ++ y2) y3 (by rw [ByteArray.size_append, ByteArray.size_append]; omega)
          go_simp
        · refine step_is _ rfl ⟨_, rfl⟩ rfl (fun _ _ => trivial) ?_
          intro a W hi hF hD
          have hu := hi.upd
          have e11 : a.tmps[11]?.getD undef = _ := (ev a 11).symm.trans (hF 11 (by kernel_rfl))
          clear hF hD
          have hc := HCC.out W hu
          go_simp
        · refine step_is _ rfl ⟨_, rfl⟩ rfl (fun _ _ => trivial) ?_
          intro a W hi hF hD
          have hu := hi.upd
          have e87 : a.tmps[87]?.getD undef = .string (out ++ y1 ++ y2 ++ y3) := (ev a 87).symm.trans (hD _ (Array.mem_of_getElem? (i := 0) rfl) rfl).1
          have e88 : a.tmps[88]?.getD undef = .string c := (ev a 88).symm.trans (hD _ (Array.mem_of_getElem? (i := 1) rfl) rfl).1
          clear hF hD
          have hc := HCC.out W hu
          have := run_string_add_sum (P := Tryz.prog) W (out ++ y1 ++ y2 ++ y3) c (by rw [ByteArray.size_append, ByteArray.size_append, ByteArray.size_append]; omega)
          rw [HE2.out] at this
          go_simp
        · refine step_is _ rfl ⟨_, rfl⟩ rfl (fun _ _ => trivial) ?_
          intro a W hi hF hD
          have hu := hi.upd
          have e89 : a.tmps[89]?.getD undef = .string (out ++ en) := (ev a 89).symm.trans (hD _ (Array.mem_of_getElem? (i := 0) rfl) rfl).1
          clear hF hD
          have hc := HCC.out W hu
          go_simp
      intro vals W hu hv
      have v0 : vals 0 = .string out := (hv 0 (by decide)).1
      have v1 : vals 1 = .int .i64 fl := (hv 1 (by decide)).1
      have v2 : vals 2 = .string c := (hv 2 (by decide)).1
      have v3 : vals 3 = .int .i64 c.size := (hv 3 (by decide)).1
      have v4 : vals 4 = .int .i64 (fl + c.size) := (hv 4 (by decide)).1
      have v5 : vals 5 = .int .i64 (fl + c.size + 6) := (hv 5 (by decide)).1
      have v6 : vals 6 = .string y1 := (hv 6 (by decide)).1
      have v7 : vals 7 = .string (out ++ y1) := (hv 7 (by decide)).1
      have v8 : vals 8 = .pointer (some ⟨wr.heap.size, 2, none⟩) := (hv 8 (by decide)).1
      have v9 : vals 9 = .int .i64 xv := (hv 9 (by decide)).1
      have v10 : vals 10 = .string y2 := (hv 10 (by decide)).1
      have v11 : vals 11 = .string (out ++ y1 ++ y2) := (hv 11 (by decide)).1
      have v12 : vals 12 = .pointer (some ⟨wr.heap.size, 3, none⟩) := (hv 12 (by decide)).1
      have v13 : vals 13 = .int .i64 xk := (hv 13 (by decide)).1
      have v14 : vals 14 = .string y3 := (hv 14 (by decide)).1
      have v15 : vals 15 = .string (out ++ y1 ++ y2 ++ y3) := (hv 15 (by decide)).1
      have v16 : vals 16 = .string c := (hv 16 (by decide)).1
      have v17 : vals 17 = .string (out ++ en) := (hv 17 (by decide)).1
      have v18 : vals 18 = .string (out ++ en) := (hv 18 (by decide)).1
      clear hv
      simp only [putAll, Act.put, Nat.zero_add, Nat.reduceAdd, v0, v1, v2, v3, v4, v5, v6, v7, v8, v9, v10, v11, v12, v13, v14, v15, v16, v17, v18, List.setIfInBounds_toArray, List.set_cons_zero, List.set_cons_succ]
      clear v0 v1 v2 v3 v4 v5 v6 v7 v8 v9 v10 v11 v12 v13 v14 v15 v16 v17 v18
      have HUE := Lib.hid (HU2.out.trans (HUD.out.trans hu))
      obtain ⟨c0, c1, c2, c3, c4⟩ := HCC.out W hu
      clear hu HCC
      have HALL2 : Hid (∀ a ∈ l.take (k + 1), a.val.size ≤ 1000) := fun a ha => by
        rw [List.take_add_one, HX.out] at ha
        rcases List.mem_append.1 ha with h | h
        · exact HALL.out a h
        · simp at h; subst h; dsimp only; omega
      have hoz : (out ++ en).size ≤ 2000 * (k + 1) := by rw [ByteArray.size_append]; omega
      generalize out ++ en = out2 at *
      have HV3 : Hid (vec (l.take (k + 1)) = if (xv == 0 && xk == 36 && !xh) = true then (xs, true) else (vv, vb)) := HV2.out
      by_cases g10 : (xv == 0 && xk == 36 && !xh) = true
      · simp only [Bool.and_eq_true, beq_iff_eq, Bool.not_eq_true'] at g10
        obtain ⟨⟨rfl, rfl⟩, rfl⟩ := g10
        have HV4 : Hid (vec (l.take (k + 1)) = (xs, true)) := HV3.out.trans (if_pos rfl)
        clear HV3 HV2
        go_wp2_with fail
        go_roundg (n - (k + 1))
        case rel => exact ⟨k + 1, out2, xs, true, by omega, rfl, rfl, rfl, by go_num, HV4.out, hoz, HALL2.out, HP2.out, HUE.out⟩
        case measure => omega
      · have HV4 : Hid (vec (l.take (k + 1)) = (vv, vb)) := HV3.out.trans (if_neg g10)
        have g11 : (xv == 0) = false ∨ (xv == 0) = true ∧ (xk == 36) = false ∨ (xv == 0) = true ∧ (xk == 36) = true ∧ xh = true := by
          revert g10
          cases (xv == 0) <;> cases (xk == 36) <;> cases xh <;> simp
        clear HV3 HV2 g10
        rcases g11 with j1 | ⟨j1, j2⟩ | ⟨j1, j2, rfl⟩
        all_goals
          go_wp2_with fail
          go_roundg (n - (k + 1))
          case rel => exact ⟨k + 1, out2, vv, vb, by omega, rfl, rfl, rfl, by go_num, HV4.out, hoz, HALL2.out, HP2.out, HUE.out⟩
          case measure => omega
    · obtain rfl : k = n := by omega
      have hd : l.drop k = [] := by rw [HN.out]; simp
      rw [hd, putFromA] at hp
      clear hall hd
      by_cases t2 : 1488 < out.size
      · rw [if_pos t2] at hp
        subst hp
        have t2' : (1488 : Int) < out.size := by omega
        go_wp2_with fail
        go_ret2
        exact ⟨rfl, HU.out⟩
      · rw [if_neg t2] at hp
        subst hp
        have t2' : ¬ (1488 : Int) < out.size := by omega
        go_wp2_with fail
        go_ret2
        exact ⟨rfl, HU.out⟩
end Go.Proofs.YtglafpdealjlnaaGreat
