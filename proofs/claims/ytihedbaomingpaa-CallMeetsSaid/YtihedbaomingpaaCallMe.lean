/- The walk of chapter 22's CallMeets. -/
import Derived.Test.YtihedbaomingpaaCallMeL
namespace Go.Proofs.Ytihedbaomingpaa
open Go.RowKit
set_option linter.unusedSimpArgs false
set_option linter.unusedVariables false
set_option maxRecDepth 100000

set_option maxHeartbeats 8000000 in
theorem callMeets_in (x y : Int) (out : Bool) (wl : List Av) (ao : Option Addr) (n cap : Nat) (w : World) (h1 : 1 ≤ x) (h2 : x ≤ 65535) (h3 : 1 ≤ y) (h4 : y ≤ 65535) (hl : AvsAt w (.slice ao n cap) wl) (hs : ∀ a ∈ wl, a.val.size ≤ 140737488355328) (HLEN : Hid (n = wl.length)) (hcap : n ≤ cap ∧ cap ≤ maxLen) :
    Calls Try.prog 6 #[.int .i64 x, .int .i64 y, .bool out, .slice ao n cap] w fun e w' => e = .returned (.bool true) ∧ Upd [] w w' := by
  simp only [maxLen] at hcap
  have HN := Lib.hid (And.intro h1 (And.intro h2 (And.intro h3 h4)))
  have HL := Lib.hid hl
  have HS := Lib.hid hs
  clear hl hs
  go_enter Try.func6, Try.ntmps6
  go_wp2_with fail
  refine (lightA_any wl _ _ HL.out HS.out).mono ?_
  rintro e w1 ⟨rfl, u1⟩
  have HU1 := Lib.hid u1
  have HL1 := Lib.hid (HL.out.upd u1)
  clear u1
  cases hli : LightA wl
  · go_wp2_with fail
    refine (alive_any _).mono ?_
    rintro e wz ⟨rfl, uz⟩
    go_wp2_with fail
    go_ret
    exact ⟨rfl, HU1.out.trans uz⟩
  have HLI := Lib.hid hli
  clear hli
  go_wp2_with fail
  go_loopg [9] n (fun mm s9 wr => ∃ k : Nat, k + mm = n ∧ s9 = .int .i64 k ∧ (∀ a ∈ wl.take k, a.must = false ∧ a.vendor ≠ 0) ∧ wr = w1)
  case atStart => exact ⟨0, by omega, rfl, by simp, rfl⟩
  case round =>
    obtain ⟨k, hk, rfl, hgood, rfl⟩ := hrel
    have HG := Lib.hid hgood
    clear hgood
    by_cases t : k < n
    · obtain ⟨x9, hx9⟩ : ∃ x, wl[k]? = some x := ⟨_, List.getElem?_eq_getElem (by have := HLEN.out; omega)⟩
      obtain ⟨ao', cap', e0, -, -, h9⟩ := HL1.out
      injection e0 with e0 e1 e2
      clear e1
      subst e0 e2
      obtain ⟨q9, rfl, c0, c1, c2, c3, c4⟩ := h9 k x9 hx9
      clear h9
      have HX9 := Lib.hid hx9
      clear hx9
      cases hm : x9.must
      · by_cases hv : x9.vendor = 0
        · rw [hm] at c0
          rw [hv] at c2
          go_wp2_with fail
          refine (alive_any _).mono ?_
          rintro e wz ⟨rfl, uz⟩
          go_wp2_with fail
          go_ret
          exact ⟨rfl, HU1.out.trans uz⟩
        · rw [hm] at c0
          go_wp2_with fail
          go_roundg (n - (k + 1))
          case rel =>
            refine ⟨k + 1, by omega, by go_num, fun a ha => ?_, rfl⟩
            rw [List.take_add_one, HX9.out] at ha
            rcases List.mem_append.1 ha with ha | ha
            · exact HG.out a ha
            · simp at ha; subst ha; exact ⟨hm, hv⟩
          case measure => omega
      · rw [hm] at c0
        go_wp2_with fail
        refine (alive_any _).mono ?_
        rintro e wz ⟨rfl, uz⟩
        go_wp2_with fail
        go_ret
        exact ⟨rfl, HU1.out.trans uz⟩
    · have hkn : n = k := by omega
      subst hkn
      have HALL : Hid (∀ a ∈ wl, a.must = false ∧ a.vendor ≠ 0) := fun a ha => HG.out a (by rw [HLEN.out, List.take_length]; exact ha)
      clear HG
      go_wp2_with fail
      refine (new_call x 1 out wr ⟨h1, h2⟩ (by omega)).mono ?_
      rintro e w2 ⟨rfl, ha, u2⟩
      go_wp2_with fail
      refine (new_call y 2 out w2 ⟨h3, h4⟩ (by omega)).mono ?_
      rintro e w3 ⟨rfl, hb, u3⟩
      have hne : wr.heap.size ≠ w2.heap.size := by have := ha.lt; omega
      obtain ⟨ca, ha0⟩ : ∃ x, x = wr.heap.size := ⟨_, rfl⟩
      obtain ⟨cb, hb0⟩ : ∃ x, x = w2.heap.size := ⟨_, rfl⟩
      have HNEW : Hid (w.heap.size ≤ ca ∧ w.heap.size ≤ cb) := by have := u2.size; have := HU1.out.size; exact ⟨by omega, by omega⟩
      rw [← ha0] at ha hne
      rw [← hb0] at hb hne
      rw [← ha0, ← hb0]
      have HA := Lib.hid (ha.upd u3)
      have HB := Lib.hid hb
      have HNE := Lib.hid hne
      have HU := Lib.hid ((HU1.out.trans u2).trans u3)
      clear ha hb ha0 hb0 hne u2 u3 HL1
      have HWL : Hid (wl.length ≤ 50) := by have h := HLI.out; unfold LightA at h; simp at h; exact h.1
      go_wp2_with fail
      refine (with_any ca _ wl _ _ HA.out rfl (HL.out.upd HU.out) (by have := HWL.out; omega)).mono ?_
      rintro e w4 ⟨rfl, q1, q2⟩
      have HA4 := Lib.hid q1
      have HB4 := Lib.hid (HB.out.far HA.out HNE.out.symm q2)
      have HU4 : Hid (Upd [] w w4) := HU.out.trans' q2 (fun x hx => .inr (by simp at hx; subst hx; exact HNEW.out.1))
      clear q1 q2 HA HB HU
      go_wp2_with fail
      refine (with_any cb _ wl _ _ HB4.out rfl (HL.out.upd HU4.out) (by have := HWL.out; omega)).mono ?_
      rintro e w5 ⟨rfl, q1, q2⟩
      have HB5 := Lib.hid q1
      have HA5 := Lib.hid (HA4.out.far HB4.out HNE.out q2)
      have HU5 : Hid (Upd [] w w5) := HU4.out.trans' q2 (fun x hx => .inr (by simp at hx; subst hx; exact HNEW.out.2))
      clear q1 q2 HA4 HB4 HU4
      go_wp2_with fail
      refine (open_any ca _ _ HA5.out rfl).mono ?_
      rintro e w6 ⟨vx, ox, rfl, q1, q2, q3⟩
      rw [me_open] at q1 q2
      have HB6 := Lib.hid (HB5.out.far HA5.out HNE.out.symm q3)
      have HU6 : Hid (Upd [] w w6) := HU5.out.trans' q3 (fun x hx => .inr (by simp at hx; subst hx; exact HNEW.out.1))
      have HOKM : Hid (MeOk (meA1 x out wl, meB0 y out wl) [(0, meO x out)]) := by
        cases out
        · exact meOk_false x y wl ⟨h1, h2⟩ ⟨h3, h4⟩ HALL.out HWL.out HS.out
        · exact meOk_true x y wl ⟨h1, h2⟩ ⟨h3, h4⟩ HALL.out HWL.out HS.out
      have HST6 : Hid (MeSt w w6 ca cb ((meA1 x out wl, meB0 y out wl), [(0, meO x out)]) vx) := ⟨q2, HB6.out, ⟨_, q1⟩, HU6.out⟩
      clear q1 q2 q3 HA5 HB5 HU5 HB6 HU6
      obtain ⟨q0, hq0⟩ : ∃ z, z = (meA1 x out wl, meB0 y out wl) := ⟨_, rfl⟩
      obtain ⟨l0, hl0⟩ : ∃ z, z = [((0 : Int), meO x out)] := ⟨_, rfl⟩
      rw [← hq0, ← hl0] at HOKM HST6
      have HQ0 := Lib.hid (And.intro hq0 hl0)
      clear hq0 hl0
      go_wp2_with fail
      go_loopg [14, 15, 16] 4 (fun mm s14 s15 s16 wy => ∃ i : Nat, i + mm = 4 ∧ s16 = .int .i64 i ∧ s14 = .int .i64 (meN q0 l0 i) ∧ MeSt w wy ca cb (meAt q0 l0 i) s15)
      case atStart => exact ⟨0, by omega, rfl, rfl, HST6.out⟩
      case round =>
        obtain ⟨i, hi, rfl, rfl, hst⟩ := hrel
        have HST := Lib.hid hst
        clear hst HST6
        by_cases t : i < 4
        · by_cases hodd : i % 2 = 1
          · obtain ⟨q, hq⟩ : ∃ z, z = (meAt q0 l0 i).1 := ⟨_, rfl⟩
            obtain ⟨L, hL⟩ : ∃ z, z = (meAt q0 l0 i).2 := ⟨_, rfl⟩
            obtain ⟨N0, hN0⟩ : ∃ z, z = meN q0 l0 i := ⟨_, rfl⟩
            have ho : oddAt i = true := by simp [oddAt]; omega
            have F1 : Hid (∀ k, k < L.length → (meIn true q L k).2 = []) := fun k hk => by have := HOKM.out.nil i k t (by rw [← hL]; exact hk); rwa [ho, ← hq, ← hL] at this
            have F2 : Hid (∀ k, k < L.length → (mePick true (meIn true q L k).1).ok) := fun k hk => by have := HOKM.out.ok i k t (by rw [← hL]; exact hk); rwa [ho, ← hq, ← hL] at this
            have F3 : Hid (∀ (k : Nat) (m : Sy), L[k]? = some m → m.2.length ≤ 1000000 ∧ ∀ a ∈ m.2, a.val.size ≤ maxLen) := fun k m hm => HOKM.out.msg i k m t (by rw [← hL]; exact hm)
            have F4 : Hid (N0 ≤ 100 ∧ L.length ≤ 100) := by have := HOKM.out.small i (by omega); rw [← hL, ← hN0] at this; exact this
            have F5a : meAt q0 l0 (i + 1) = meIn (oddAt i) (meAt q0 l0 i).1 (meAt q0 l0 i).2 (meAt q0 l0 i).2.length := rfl
            rw [ho, ← hq, ← hL] at F5a
            have F5b : meN q0 l0 (i + 1) = meN q0 l0 i + (meAt q0 l0 i).2.length := rfl
            rw [← hL, ← hN0] at F5b
            have F5 := Lib.hid (And.intro F5a F5b)
            clear F5a F5b
            have hst := HST.out
            rw [show meAt q0 l0 i = (q, L) by rw [hq, hL]] at hst
            rw [← hN0]
            clear hq hL hN0 ho HST
            obtain ⟨hsa, hsb, ⟨ol, hsx⟩, hsu⟩ := hst
            have hsx : SaysAt wr _ L ol := hsx
            obtain ⟨aoL, capL, rfl, hcL, hcM⟩ := hsx.shape
            obtain ⟨NL, hNL⟩ : ∃ z, z = L.length := ⟨_, rfl⟩
            have HNL := Lib.hid hNL
            rw [← hNL] at hsx hcL ⊢
            simp only [maxLen] at hcM
            clear hNL
            have HS0 : Hid (MeS2 w wr ca cb (meIn true q L 0) L (.slice aoL NL capL) (.slice none 0 0)) := ⟨hsa, hsb, ⟨_, hsx⟩, ⟨[], SaysAt.nil _⟩, fun _ => rfl, hsu⟩
            clear hsa hsb hsx hsu
            have hrem : ((i : Int)).tmod 2 = 1 := by rw [Int.tmod_eq_emod_of_nonneg (by omega)]; omega
            have hN : N0 ≤ 100 ∧ NL ≤ 100 := by have := F4.out; have := HNL.out; omega
            go_wp2_with fail
            go_loopg [14, 17, 18] NL (fun mm s14 s17 s18 wx => ∃ k : Nat, k + mm = NL ∧ s18 = .int .i64 k ∧ s14 = .int .i64 (N0 + k : Nat) ∧ MeS2 w wx ca cb (meIn true q L k) L (.slice aoL NL capL) s17)
            case atStart => exact ⟨0, by omega, rfl, rfl, HS0.out⟩
            case round =>
              obtain ⟨k, hk, rfl, rfl, hs2⟩ := hrel
              have HS2 := Lib.hid hs2
              clear hs2 HS0
              by_cases tk : k < NL
              · obtain ⟨p, hp⟩ : ∃ p, L[k]? = some p := ⟨_, List.getElem?_eq_getElem (by have := HNL.out; omega)⟩
                obtain ⟨hsa, hsb, ⟨ol, hsx⟩, ⟨ob, hbk⟩, hnil, hsu⟩ := HS2.out
                have hnn := F1.out k (by have := HNL.out; omega)
                have hbn := hnil hnn
                subst hbn
                clear hbk hnil
                obtain ⟨g, off, cap2, u, hv, m1, m2, cs, cuu, av, far⟩ := SaysAt.get_far hsx k hp
                injection hv with e1 e2 e3
                subst e1 e3
                obtain ⟨aou, nu, cu, rfl⟩ := av.shape
                have HLT : Hid (g < wr.heap.size) := Lib.hid (cell_lt' cs)
                have HCS := Lib.hid cs
                have HCU := Lib.hid cuu
                have HAV := Lib.hid av
                have HCALL : Hid (CallAt wr ca (mePick true (meIn true q L k).1)) := hsa
                have HFARR : Hid (∀ W, Upd [ca] wr W → AvsAt W (.slice aou nu cu) p.2) := fun W hu => far W ca _ HCALL.out hu
                have HMS := Lib.hid (F3.out k p hp)
                have HOKK := Lib.hid (F2.out k (by have := HNL.out; omega))
                have HE : Hid (meIn true q L (k + 1) = (mePut true (meIn true q L k).1 ((mePick true (meIn true q L k).1).take p.2).1, ((mePick true (meIn true q L k).1).take p.2).2)) := by show _ = _; rw [meIn_succ _ _ _ _ hp, meTake, hnn, List.nil_append]
                have HLR : Hid (((mePick true (meIn true q L k).1).take p.2).2.length ≤ 1000) := take_says _ _
                have HX := Lib.hid hsx
                have HA := Lib.hid hsa
                have HB := Lib.hid hsb
                have HU := Lib.hid hsu
                clear hp hsa hsb hsx hsu hnn cs cuu av far e2 HS2
                go_upto_region 27 with (fail)
                refine wp_region_chain [some (.slice none 0 0), some (.pointer (some ⟨ca, 0, none⟩)), some (.slice (some ⟨g, off, none⟩) NL capL), some (.int .i64 k), some (.pointer (some ⟨g, off + k * 2, none⟩)), some (.pointer (some ⟨g, off + k * 2, none⟩)), some (.int .i64 p.1), some (.slice (some ⟨g, off, none⟩) NL capL), some (.int .i64 k), some (.pointer (some ⟨g, off + k * 2, none⟩)), some (.pointer (some ⟨g, off + k * 2 + 1, none⟩)), some (.slice aou nu cu), some (.agg #[.int .i64 0, .int .i64 p.1, .int .i64 0, .int .i64 0, .slice aou nu cu]), none, none, none] [13,14,15] (meS wr ca ((mePick true (meIn true q L k).1).take p.2)) [(0, 1), (0, 0), (0, 0), (0, 0), (0, 0), (0, 0), (0, 0), (0, 0), (0, 0), (0, 0), (0, 0), (0, 0), (0, 0), (0, 0), (1, 1), (2, 2)] (by kernel_rfl) (by kernel_rfl) (by kernel_rfl) (by kernel_rfl) (by kernel_rfl) (by kernel_rfl) ((Upd.refl [] _).drew) ?_ ?_
                · refine StepsC.cons ?_ (StepsC.cons ?_ (StepsC.cons ?_ (StepsC.cons ?_ (StepsC.cons ?_ (StepsC.cons ?_ (StepsC.cons ?_ (StepsC.cons ?_ (StepsC.cons ?_ (StepsC.cons ?_ (StepsC.cons ?_ (StepsC.cons ?_ (StepsC.cons ?_ (StepsC.cons ?_ (StepsC.cons ?_ (StepsC.cons ?_ StepsC.nil)))))))))))))))
                  · refine chain_is _ (.inl rfl) ⟨_, rfl⟩ (by kernel_rfl) rfl ?_
                    intro a W kst l0 h0 A0 hF hD
                    have e17 : a.tmps[17]?.getD undef = _ := (ev a 17).symm.trans (hF 17 (by kernel_rfl))
                    clear hF hD
                    go_simp
                  · refine chain_is _ (.inl rfl) ⟨_, rfl⟩ (by kernel_rfl) rfl ?_
                    intro a W kst l0 h0 A0 hF hD
                    have k0 : kst = 0 := Nat.le_antisymm h0 l0
                    subst k0
                    clear l0 h0
                    have e19 : a.tmps[19]?.getD undef = _ := (ev a 19).symm.trans (hF 19 (by kernel_rfl))
                    clear hF hD
                    go_simp
                  · refine chain_is _ (.inl rfl) ⟨_, rfl⟩ (by kernel_rfl) rfl ?_
                    intro a W kst l0 h0 A0 hF hD
                    have k0 : kst = 0 := Nat.le_antisymm h0 l0
                    subst k0
                    clear l0 h0
                    have e15 : a.tmps[15]?.getD undef = _ := (ev a 15).symm.trans (hF 15 (by kernel_rfl))
                    clear hF hD
                    go_simp
                  · refine chain_is _ (.inl rfl) ⟨_, rfl⟩ (by kernel_rfl) rfl ?_
                    intro a W kst l0 h0 A0 hF hD
                    have k0 : kst = 0 := Nat.le_antisymm h0 l0
                    subst k0
                    clear l0 h0
                    have e18 : a.tmps[18]?.getD undef = _ := (ev a 18).symm.trans (hF 18 (by kernel_rfl))
                    clear hF hD
                    go_simp
                  · refine chain_is _ (.inl rfl) ⟨_, rfl⟩ (by kernel_rfl) rfl ?_
                    intro a W kst l0 h0 A0 hF hD
                    have k0 : kst = 0 := Nat.le_antisymm h0 l0
                    subst k0
                    clear l0 h0
                    have e118 : a.tmps[118]?.getD undef = .slice (some ⟨g, off, none⟩) NL capL := (ev a 118).symm.trans (hD _ (Array.mem_of_getElem? (i := 0) rfl) rfl)
                    have e119 : a.tmps[119]?.getD undef = .int .i64 k := (ev a 119).symm.trans (hD _ (Array.mem_of_getElem? (i := 1) rfl) rfl)
                    clear hF hD
                    go_simp
                  · refine chain_is _ (.inl rfl) ⟨_, rfl⟩ (by kernel_rfl) rfl ?_
                    intro a W kst l0 h0 A0 hF hD
                    have k0 : kst = 0 := Nat.le_antisymm h0 l0
                    subst k0
                    clear l0 h0
                    have e120 : a.tmps[120]?.getD undef = .pointer (some ⟨g, off + k * 2, none⟩) := (ev a 120).symm.trans (hD _ (Array.mem_of_getElem? (i := 0) rfl) rfl)
                    clear hF hD
                    go_simp
                  · refine chain_is _ (.inl rfl) ⟨_, rfl⟩ (by kernel_rfl) rfl ?_
                    intro a W kst l0 h0 A0 hF hD
                    have k0 : kst = 0 := Nat.le_antisymm h0 l0
                    subst k0
                    clear l0 h0
                    have e121 : a.tmps[121]?.getD undef = .pointer (some ⟨g, off + k * 2, none⟩) := (ev a 121).symm.trans (hD _ (Array.mem_of_getElem? (i := 0) rfl) rfl)
                    clear hF hD
                    have hu : Upd [] _ W := A0
                    have c1 := (hu.cell (p := ⟨g, off + k * 2, none⟩) HLT.out (by simp)).trans HCS.out
                    go_simp
                  · refine chain_is _ (.inl rfl) ⟨_, rfl⟩ (by kernel_rfl) rfl ?_
                    intro a W kst l0 h0 A0 hF hD
                    have k0 : kst = 0 := Nat.le_antisymm h0 l0
                    subst k0
                    clear l0 h0
                    have e15 : a.tmps[15]?.getD undef = _ := (ev a 15).symm.trans (hF 15 (by kernel_rfl))
                    clear hF hD
                    go_simp
                  · refine chain_is _ (.inl rfl) ⟨_, rfl⟩ (by kernel_rfl) rfl ?_
                    intro a W kst l0 h0 A0 hF hD
                    have k0 : kst = 0 := Nat.le_antisymm h0 l0
                    subst k0
                    clear l0 h0
                    have e18 : a.tmps[18]?.getD undef = _ := (ev a 18).symm.trans (hF 18 (by kernel_rfl))
                    clear hF hD
                    go_simp
                  · refine chain_is _ (.inl rfl) ⟨_, rfl⟩ (by kernel_rfl) rfl ?_
                    intro a W kst l0 h0 A0 hF hD
                    have k0 : kst = 0 := Nat.le_antisymm h0 l0
                    subst k0
                    clear l0 h0
                    have e123 : a.tmps[123]?.getD undef = .slice (some ⟨g, off, none⟩) NL capL := (ev a 123).symm.trans (hD _ (Array.mem_of_getElem? (i := 0) rfl) rfl)
                    have e124 : a.tmps[124]?.getD undef = .int .i64 k := (ev a 124).symm.trans (hD _ (Array.mem_of_getElem? (i := 1) rfl) rfl)
                    clear hF hD
                    go_simp
                  · refine chain_is _ (.inl rfl) ⟨_, rfl⟩ (by kernel_rfl) rfl ?_
                    intro a W kst l0 h0 A0 hF hD
                    have k0 : kst = 0 := Nat.le_antisymm h0 l0
                    subst k0
                    clear l0 h0
                    have e125 : a.tmps[125]?.getD undef = .pointer (some ⟨g, off + k * 2, none⟩) := (ev a 125).symm.trans (hD _ (Array.mem_of_getElem? (i := 0) rfl) rfl)
                    clear hF hD
                    go_simp
                  · refine chain_is _ (.inl rfl) ⟨_, rfl⟩ (by kernel_rfl) rfl ?_
                    intro a W kst l0 h0 A0 hF hD
                    have k0 : kst = 0 := Nat.le_antisymm h0 l0
                    subst k0
                    clear l0 h0
                    have e126 : a.tmps[126]?.getD undef = .pointer (some ⟨g, off + k * 2 + 1, none⟩) := (ev a 126).symm.trans (hD _ (Array.mem_of_getElem? (i := 0) rfl) rfl)
                    clear hF hD
                    have hu : Upd [] _ W := A0
                    have c1 := (hu.cell (p := ⟨g, off + k * 2 + 1, none⟩) HLT.out (by simp)).trans HCU.out
                    go_simp
                  · refine chain_is _ (.inl rfl) ⟨_, rfl⟩ (by kernel_rfl) rfl ?_
                    intro a W kst l0 h0 A0 hF hD
                    have k0 : kst = 0 := Nat.le_antisymm h0 l0
                    subst k0
                    clear l0 h0
                    have e122 : a.tmps[122]?.getD undef = .int .i64 p.1 := (ev a 122).symm.trans (hD _ (Array.mem_of_getElem? (i := 0) rfl) rfl)
                    have e127 : a.tmps[127]?.getD undef = .slice aou nu cu := (ev a 127).symm.trans (hD _ (Array.mem_of_getElem? (i := 1) rfl) rfl)
                    clear hF hD
                    go_simp
                  · refine chain_call (.inl rfl) ⟨_, rfl⟩ (by kernel_rfl) ?_
                    intro a W kst l0 h0 A0 hF hD
                    have k0 : kst = 0 := Nat.le_antisymm h0 l0
                    subst k0
                    clear l0 h0
                    have e117 : a.tmps[117]?.getD undef = .pointer (some ⟨ca, 0, none⟩) := (ev a 117).symm.trans (hD _ (Array.mem_of_getElem? (i := 0) rfl) rfl)
                    have e128 : a.tmps[128]?.getD undef = .agg #[.int .i64 0, .int .i64 p.1, .int .i64 0, .int .i64 0, .slice aou nu cu] := (ev a 128).symm.trans (hD _ (Array.mem_of_getElem? (i := 1) rfl) rfl)
                    clear hF hD
                    have hu : Upd [] _ W := A0
                    refine ⟨_, _, by (go_simp; first | done | rfl | exact ⟨rfl, rfl⟩), ?_⟩
                    refine (take_any ca _ p.2 0 p.1 0 0 _ _ (HCALL.out.upd hu) (HAV.out.upd hu) HMS.out.2 HOKK.out HMS.out.1 (fun W2 hw => HFARR.out _ ((hu.mono (by simp)).trans hw))).mono ?_
                    rintro e w3 ⟨v3, own3, rfl, h1, h2, h3⟩
                    exact ⟨_, rfl, trivial, own3, h1, h2, (hu.mono (by simp)).trans h3⟩
                  · refine chain_run (.inl rfl) ⟨_, rfl⟩ (by kernel_rfl) ?_
                    intro a W kst l0 h0 A0 hF hD
                    have k0 : kst = 1 := Nat.le_antisymm h0 l0
                    subst k0
                    clear l0 h0
                    have e116 : a.tmps[116]?.getD undef = .slice none 0 0 := (ev a 116).symm.trans (hD _ (Array.mem_of_getElem? (i := 0) rfl) rfl)
                    clear hF hD
                    obtain ⟨own1, h1, h2, h3⟩ := A0
                    obtain ⟨j0, hj0, jz0, jz1, jz2⟩ := info_parts info_say
                    have h1 : SaysAt W (a.tmps[129]?.getD undef) ((mePick true (meIn true q L k).1).take p.2).2 own1 := by rw [← ev]; exact h1
                    obtain ⟨v2, w2, own2, r1, r2, r3, r4⟩ := h1.append_nil 27 27 j0 _ Try.underlying27 hj0 jz0 jz1 jz2 rfl HLR.out
                    refine ⟨v2, w2, ?_, trivial, own2, r2, r3, h2.upd r4, h3.trans (r4.mono (by simp))⟩
                    simp only [execOp, resolve, invoke, builtin, Sem.run_bind, Sem.run_pure, Result.andThen_ok, List.map_toArray, List.map_cons, List.map_nil, ev, e116, r1]
                  · refine chain_run (.inl rfl) ⟨_, rfl⟩ (by kernel_rfl) ?_
                    intro a W kst l0 h0 A0 hF hD
                    have k0 : kst = 2 := Nat.le_antisymm h0 l0
                    subst k0
                    clear l0 h0
                    clear hF hD
                    obtain ⟨own1, h1, h4, h2, h3⟩ := A0
                    exact ⟨_, W, by (go_simp; first | done | rfl | exact ⟨rfl, rfl⟩), trivial, own1, by rw [← ev]; exact h1, by rw [← ev]; exact h4, h2, h3⟩
                intro vals W hv hA
                have v0 : vals 0 = .slice none 0 0 := hv 0 (by decide)
                have v1 : vals 1 = .pointer (some ⟨ca, 0, none⟩) := hv 1 (by decide)
                have v2 : vals 2 = .slice (some ⟨g, off, none⟩) NL capL := hv 2 (by decide)
                have v3 : vals 3 = .int .i64 k := hv 3 (by decide)
                have v4 : vals 4 = .pointer (some ⟨g, off + k * 2, none⟩) := hv 4 (by decide)
                have v5 : vals 5 = .pointer (some ⟨g, off + k * 2, none⟩) := hv 5 (by decide)
                have v6 : vals 6 = .int .i64 p.1 := hv 6 (by decide)
                have v7 : vals 7 = .slice (some ⟨g, off, none⟩) NL capL := hv 7 (by decide)
                have v8 : vals 8 = .int .i64 k := hv 8 (by decide)
                have v9 : vals 9 = .pointer (some ⟨g, off + k * 2, none⟩) := hv 9 (by decide)
                have v10 : vals 10 = .pointer (some ⟨g, off + k * 2 + 1, none⟩) := hv 10 (by decide)
                have v11 : vals 11 = .slice aou nu cu := hv 11 (by decide)
                have v12 : vals 12 = .agg #[.int .i64 0, .int .i64 p.1, .int .i64 0, .int .i64 0, .slice aou nu cu] := hv 12 (by decide)
                clear hv
                obtain ⟨own1, h1, h4, h2, h3⟩ := hA
                simp only [putAll, Act.put, Nat.zero_add, Nat.reduceAdd, v0, v1, v2, v3, v4, v5, v6, v7, v8, v9, v10, v11, v12, List.setIfInBounds_toArray, List.set_cons_zero, List.set_cons_succ]
                clear v0 v1 v2 v3 v4 v5 v6 v7 v8 v9 v10 v11 v12
                have HS3 : Hid (MeS2 w W ca cb (meIn true q L (k + 1)) L (.slice (some ⟨g, off, none⟩) NL capL) (vals 15)) := by
                  show MeS2 _ _ _ _ _ _ _ _
                  rw [HE.out]
                  exact ⟨h2, HB.out.far HA.out HNE.out.symm h3, ⟨_, HX.out.far HCALL.out h3⟩, ⟨_, h1⟩, h4, HU.out.trans' h3 (fun x hx => .inr (by simp at hx; subst hx; exact HNEW.out.1))⟩
                generalize vals 15 = vy at *
                clear h1 h2 h3 h4 HX HA HB HU HLT HCS HCU HAV HCALL HFARR HMS HOKK HLR HE
                go_wp2_with fail
                go_roundg (NL - (k + 1))
                case rel => exact ⟨k + 1, by omega, by go_num, by go_num, HS3.out⟩
                case measure => omega
              · have hkn : NL = k := by omega
                subst hkn
                go_wp2_with fail
                go_roundg (4 - (i + 1))
                case rel =>
                  obtain ⟨hsa, hsb, -, hbk, -, hsu⟩ := HS2.out
                  have f5 := F5.out
                  rw [← HNL.out] at f5
                  refine ⟨i + 1, by omega, by go_num, by rw [f5.2], ?_⟩
                  rw [f5.1]
                  exact ⟨hsa, hsb, hbk, hsu⟩
                case measure => omega
          · obtain ⟨q, hq⟩ : ∃ z, z = (meAt q0 l0 i).1 := ⟨_, rfl⟩
            obtain ⟨L, hL⟩ : ∃ z, z = (meAt q0 l0 i).2 := ⟨_, rfl⟩
            obtain ⟨N0, hN0⟩ : ∃ z, z = meN q0 l0 i := ⟨_, rfl⟩
            have ho : oddAt i = false := by simp [oddAt]; omega
            have F1 : Hid (∀ k, k < L.length → (meIn false q L k).2 = []) := fun k hk => by have := HOKM.out.nil i k t (by rw [← hL]; exact hk); rwa [ho, ← hq, ← hL] at this
            have F2 : Hid (∀ k, k < L.length → (mePick false (meIn false q L k).1).ok) := fun k hk => by have := HOKM.out.ok i k t (by rw [← hL]; exact hk); rwa [ho, ← hq, ← hL] at this
            have F3 : Hid (∀ (k : Nat) (m : Sy), L[k]? = some m → m.2.length ≤ 1000000 ∧ ∀ a ∈ m.2, a.val.size ≤ maxLen) := fun k m hm => HOKM.out.msg i k m t (by rw [← hL]; exact hm)
            have F4 : Hid (N0 ≤ 100 ∧ L.length ≤ 100) := by have := HOKM.out.small i (by omega); rw [← hL, ← hN0] at this; exact this
            have F5a : meAt q0 l0 (i + 1) = meIn (oddAt i) (meAt q0 l0 i).1 (meAt q0 l0 i).2 (meAt q0 l0 i).2.length := rfl
            rw [ho, ← hq, ← hL] at F5a
            have F5b : meN q0 l0 (i + 1) = meN q0 l0 i + (meAt q0 l0 i).2.length := rfl
            rw [← hL, ← hN0] at F5b
            have F5 := Lib.hid (And.intro F5a F5b)
            clear F5a F5b
            have hst := HST.out
            rw [show meAt q0 l0 i = (q, L) by rw [hq, hL]] at hst
            rw [← hN0]
            clear hq hL hN0 ho HST
            obtain ⟨hsa, hsb, ⟨ol, hsx⟩, hsu⟩ := hst
            have hsx : SaysAt wr _ L ol := hsx
            obtain ⟨aoL, capL, rfl, hcL, hcM⟩ := hsx.shape
            obtain ⟨NL, hNL⟩ : ∃ z, z = L.length := ⟨_, rfl⟩
            have HNL := Lib.hid hNL
            rw [← hNL] at hsx hcL ⊢
            simp only [maxLen] at hcM
            clear hNL
            have HS0 : Hid (MeS2 w wr ca cb (meIn false q L 0) L (.slice aoL NL capL) (.slice none 0 0)) := ⟨hsa, hsb, ⟨_, hsx⟩, ⟨[], SaysAt.nil _⟩, fun _ => rfl, hsu⟩
            clear hsa hsb hsx hsu
            have hrem : ((i : Int)).tmod 2 = 0 := by rw [Int.tmod_eq_emod_of_nonneg (by omega)]; omega
            have hN : N0 ≤ 100 ∧ NL ≤ 100 := by have := F4.out; have := HNL.out; omega
            go_wp2_with fail
            go_loopg [14, 17, 18] NL (fun mm s14 s17 s18 wx => ∃ k : Nat, k + mm = NL ∧ s18 = .int .i64 k ∧ s14 = .int .i64 (N0 + k : Nat) ∧ MeS2 w wx ca cb (meIn false q L k) L (.slice aoL NL capL) s17)
            case atStart => exact ⟨0, by omega, rfl, rfl, HS0.out⟩
            case round =>
              obtain ⟨k, hk, rfl, rfl, hs2⟩ := hrel
              have HS2 := Lib.hid hs2
              clear hs2 HS0
              by_cases tk : k < NL
              · obtain ⟨p, hp⟩ : ∃ p, L[k]? = some p := ⟨_, List.getElem?_eq_getElem (by have := HNL.out; omega)⟩
                obtain ⟨hsa, hsb, ⟨ol, hsx⟩, ⟨ob, hbk⟩, hnil, hsu⟩ := HS2.out
                have hnn := F1.out k (by have := HNL.out; omega)
                have hbn := hnil hnn
                subst hbn
                clear hbk hnil
                obtain ⟨g, off, cap2, u, hv, m1, m2, cs, cuu, av, far⟩ := SaysAt.get_far hsx k hp
                injection hv with e1 e2 e3
                subst e1 e3
                obtain ⟨aou, nu, cu, rfl⟩ := av.shape
                have HLT : Hid (g < wr.heap.size) := Lib.hid (cell_lt' cs)
                have HCS := Lib.hid cs
                have HCU := Lib.hid cuu
                have HAV := Lib.hid av
                have HCALL : Hid (CallAt wr cb (mePick false (meIn false q L k).1)) := hsb
                have HFARR : Hid (∀ W, Upd [cb] wr W → AvsAt W (.slice aou nu cu) p.2) := fun W hu => far W cb _ HCALL.out hu
                have HMS := Lib.hid (F3.out k p hp)
                have HOKK := Lib.hid (F2.out k (by have := HNL.out; omega))
                have HE : Hid (meIn false q L (k + 1) = (mePut false (meIn false q L k).1 ((mePick false (meIn false q L k).1).take p.2).1, ((mePick false (meIn false q L k).1).take p.2).2)) := by show _ = _; rw [meIn_succ _ _ _ _ hp, meTake, hnn, List.nil_append]
                have HLR : Hid (((mePick false (meIn false q L k).1).take p.2).2.length ≤ 1000) := take_says _ _
                have HX := Lib.hid hsx
                have HA := Lib.hid hsa
                have HB := Lib.hid hsb
                have HU := Lib.hid hsu
                clear hp hsa hsb hsx hsu hnn cs cuu av far e2 HS2
                go_upto_region 27 with (fail)
                refine wp_region_chain [some (.slice none 0 0), some (.pointer (some ⟨cb, 0, none⟩)), some (.slice (some ⟨g, off, none⟩) NL capL), some (.int .i64 k), some (.pointer (some ⟨g, off + k * 2, none⟩)), some (.pointer (some ⟨g, off + k * 2, none⟩)), some (.int .i64 p.1), some (.slice (some ⟨g, off, none⟩) NL capL), some (.int .i64 k), some (.pointer (some ⟨g, off + k * 2, none⟩)), some (.pointer (some ⟨g, off + k * 2 + 1, none⟩)), some (.slice aou nu cu), some (.agg #[.int .i64 0, .int .i64 p.1, .int .i64 0, .int .i64 0, .slice aou nu cu]), none, none, none] [13,14,15] (meS wr cb ((mePick false (meIn false q L k).1).take p.2)) [(0, 1), (0, 0), (0, 0), (0, 0), (0, 0), (0, 0), (0, 0), (0, 0), (0, 0), (0, 0), (0, 0), (0, 0), (0, 0), (0, 0), (1, 1), (2, 2)] (by kernel_rfl) (by kernel_rfl) (by kernel_rfl) (by kernel_rfl) (by kernel_rfl) (by kernel_rfl) ((Upd.refl [] _).drew) ?_ ?_
                · refine StepsC.cons ?_ (StepsC.cons ?_ (StepsC.cons ?_ (StepsC.cons ?_ (StepsC.cons ?_ (StepsC.cons ?_ (StepsC.cons ?_ (StepsC.cons ?_ (StepsC.cons ?_ (StepsC.cons ?_ (StepsC.cons ?_ (StepsC.cons ?_ (StepsC.cons ?_ (StepsC.cons ?_ (StepsC.cons ?_ (StepsC.cons ?_ StepsC.nil)))))))))))))))
                  · refine chain_is _ (.inl rfl) ⟨_, rfl⟩ (by kernel_rfl) rfl ?_
                    intro a W kst l0 h0 A0 hF hD
                    have e17 : a.tmps[17]?.getD undef = _ := (ev a 17).symm.trans (hF 17 (by kernel_rfl))
                    clear hF hD
                    go_simp
                  · refine chain_is _ (.inl rfl) ⟨_, rfl⟩ (by kernel_rfl) rfl ?_
                    intro a W kst l0 h0 A0 hF hD
                    have k0 : kst = 0 := Nat.le_antisymm h0 l0
                    subst k0
                    clear l0 h0
                    have e19 : a.tmps[19]?.getD undef = _ := (ev a 19).symm.trans (hF 19 (by kernel_rfl))
                    clear hF hD
                    go_simp
                  · refine chain_is _ (.inl rfl) ⟨_, rfl⟩ (by kernel_rfl) rfl ?_
                    intro a W kst l0 h0 A0 hF hD
                    have k0 : kst = 0 := Nat.le_antisymm h0 l0
                    subst k0
                    clear l0 h0
                    have e15 : a.tmps[15]?.getD undef = _ := (ev a 15).symm.trans (hF 15 (by kernel_rfl))
                    clear hF hD
                    go_simp
                  · refine chain_is _ (.inl rfl) ⟨_, rfl⟩ (by kernel_rfl) rfl ?_
                    intro a W kst l0 h0 A0 hF hD
                    have k0 : kst = 0 := Nat.le_antisymm h0 l0
                    subst k0
                    clear l0 h0
                    have e18 : a.tmps[18]?.getD undef = _ := (ev a 18).symm.trans (hF 18 (by kernel_rfl))
                    clear hF hD
                    go_simp
                  · refine chain_is _ (.inl rfl) ⟨_, rfl⟩ (by kernel_rfl) rfl ?_
                    intro a W kst l0 h0 A0 hF hD
                    have k0 : kst = 0 := Nat.le_antisymm h0 l0
                    subst k0
                    clear l0 h0
                    have e118 : a.tmps[118]?.getD undef = .slice (some ⟨g, off, none⟩) NL capL := (ev a 118).symm.trans (hD _ (Array.mem_of_getElem? (i := 0) rfl) rfl)
                    have e119 : a.tmps[119]?.getD undef = .int .i64 k := (ev a 119).symm.trans (hD _ (Array.mem_of_getElem? (i := 1) rfl) rfl)
                    clear hF hD
                    go_simp
                  · refine chain_is _ (.inl rfl) ⟨_, rfl⟩ (by kernel_rfl) rfl ?_
                    intro a W kst l0 h0 A0 hF hD
                    have k0 : kst = 0 := Nat.le_antisymm h0 l0
                    subst k0
                    clear l0 h0
                    have e120 : a.tmps[120]?.getD undef = .pointer (some ⟨g, off + k * 2, none⟩) := (ev a 120).symm.trans (hD _ (Array.mem_of_getElem? (i := 0) rfl) rfl)
                    clear hF hD
                    go_simp
                  · refine chain_is _ (.inl rfl) ⟨_, rfl⟩ (by kernel_rfl) rfl ?_
                    intro a W kst l0 h0 A0 hF hD
                    have k0 : kst = 0 := Nat.le_antisymm h0 l0
                    subst k0
                    clear l0 h0
                    have e121 : a.tmps[121]?.getD undef = .pointer (some ⟨g, off + k * 2, none⟩) := (ev a 121).symm.trans (hD _ (Array.mem_of_getElem? (i := 0) rfl) rfl)
                    clear hF hD
                    have hu : Upd [] _ W := A0
                    have c1 := (hu.cell (p := ⟨g, off + k * 2, none⟩) HLT.out (by simp)).trans HCS.out
                    go_simp
                  · refine chain_is _ (.inl rfl) ⟨_, rfl⟩ (by kernel_rfl) rfl ?_
                    intro a W kst l0 h0 A0 hF hD
                    have k0 : kst = 0 := Nat.le_antisymm h0 l0
                    subst k0
                    clear l0 h0
                    have e15 : a.tmps[15]?.getD undef = _ := (ev a 15).symm.trans (hF 15 (by kernel_rfl))
                    clear hF hD
                    go_simp
                  · refine chain_is _ (.inl rfl) ⟨_, rfl⟩ (by kernel_rfl) rfl ?_
                    intro a W kst l0 h0 A0 hF hD
                    have k0 : kst = 0 := Nat.le_antisymm h0 l0
                    subst k0
                    clear l0 h0
                    have e18 : a.tmps[18]?.getD undef = _ := (ev a 18).symm.trans (hF 18 (by kernel_rfl))
                    clear hF hD
                    go_simp
                  · refine chain_is _ (.inl rfl) ⟨_, rfl⟩ (by kernel_rfl) rfl ?_
                    intro a W kst l0 h0 A0 hF hD
                    have k0 : kst = 0 := Nat.le_antisymm h0 l0
                    subst k0
                    clear l0 h0
                    have e123 : a.tmps[123]?.getD undef = .slice (some ⟨g, off, none⟩) NL capL := (ev a 123).symm.trans (hD _ (Array.mem_of_getElem? (i := 0) rfl) rfl)
                    have e124 : a.tmps[124]?.getD undef = .int .i64 k := (ev a 124).symm.trans (hD _ (Array.mem_of_getElem? (i := 1) rfl) rfl)
                    clear hF hD
                    go_simp
                  · refine chain_is _ (.inl rfl) ⟨_, rfl⟩ (by kernel_rfl) rfl ?_
                    intro a W kst l0 h0 A0 hF hD
                    have k0 : kst = 0 := Nat.le_antisymm h0 l0
                    subst k0
                    clear l0 h0
                    have e125 : a.tmps[125]?.getD undef = .pointer (some ⟨g, off + k * 2, none⟩) := (ev a 125).symm.trans (hD _ (Array.mem_of_getElem? (i := 0) rfl) rfl)
                    clear hF hD
                    go_simp
                  · refine chain_is _ (.inl rfl) ⟨_, rfl⟩ (by kernel_rfl) rfl ?_
                    intro a W kst l0 h0 A0 hF hD
                    have k0 : kst = 0 := Nat.le_antisymm h0 l0
                    subst k0
                    clear l0 h0
                    have e126 : a.tmps[126]?.getD undef = .pointer (some ⟨g, off + k * 2 + 1, none⟩) := (ev a 126).symm.trans (hD _ (Array.mem_of_getElem? (i := 0) rfl) rfl)
                    clear hF hD
                    have hu : Upd [] _ W := A0
                    have c1 := (hu.cell (p := ⟨g, off + k * 2 + 1, none⟩) HLT.out (by simp)).trans HCU.out
                    go_simp
                  · refine chain_is _ (.inl rfl) ⟨_, rfl⟩ (by kernel_rfl) rfl ?_
                    intro a W kst l0 h0 A0 hF hD
                    have k0 : kst = 0 := Nat.le_antisymm h0 l0
                    subst k0
                    clear l0 h0
                    have e122 : a.tmps[122]?.getD undef = .int .i64 p.1 := (ev a 122).symm.trans (hD _ (Array.mem_of_getElem? (i := 0) rfl) rfl)
                    have e127 : a.tmps[127]?.getD undef = .slice aou nu cu := (ev a 127).symm.trans (hD _ (Array.mem_of_getElem? (i := 1) rfl) rfl)
                    clear hF hD
                    go_simp
                  · refine chain_call (.inl rfl) ⟨_, rfl⟩ (by kernel_rfl) ?_
                    intro a W kst l0 h0 A0 hF hD
                    have k0 : kst = 0 := Nat.le_antisymm h0 l0
                    subst k0
                    clear l0 h0
                    have e117 : a.tmps[117]?.getD undef = .pointer (some ⟨cb, 0, none⟩) := (ev a 117).symm.trans (hD _ (Array.mem_of_getElem? (i := 0) rfl) rfl)
                    have e128 : a.tmps[128]?.getD undef = .agg #[.int .i64 0, .int .i64 p.1, .int .i64 0, .int .i64 0, .slice aou nu cu] := (ev a 128).symm.trans (hD _ (Array.mem_of_getElem? (i := 1) rfl) rfl)
                    clear hF hD
                    have hu : Upd [] _ W := A0
                    refine ⟨_, _, by (go_simp; first | done | rfl | exact ⟨rfl, rfl⟩), ?_⟩
                    refine (take_any cb _ p.2 0 p.1 0 0 _ _ (HCALL.out.upd hu) (HAV.out.upd hu) HMS.out.2 HOKK.out HMS.out.1 (fun W2 hw => HFARR.out _ ((hu.mono (by simp)).trans hw))).mono ?_
                    rintro e w3 ⟨v3, own3, rfl, h1, h2, h3⟩
                    exact ⟨_, rfl, trivial, own3, h1, h2, (hu.mono (by simp)).trans h3⟩
                  · refine chain_run (.inl rfl) ⟨_, rfl⟩ (by kernel_rfl) ?_
                    intro a W kst l0 h0 A0 hF hD
                    have k0 : kst = 1 := Nat.le_antisymm h0 l0
                    subst k0
                    clear l0 h0
                    have e116 : a.tmps[116]?.getD undef = .slice none 0 0 := (ev a 116).symm.trans (hD _ (Array.mem_of_getElem? (i := 0) rfl) rfl)
                    clear hF hD
                    obtain ⟨own1, h1, h2, h3⟩ := A0
                    obtain ⟨j0, hj0, jz0, jz1, jz2⟩ := info_parts info_say
                    have h1 : SaysAt W (a.tmps[129]?.getD undef) ((mePick false (meIn false q L k).1).take p.2).2 own1 := by rw [← ev]; exact h1
                    obtain ⟨v2, w2, own2, r1, r2, r3, r4⟩ := h1.append_nil 27 27 j0 _ Try.underlying27 hj0 jz0 jz1 jz2 rfl HLR.out
                    refine ⟨v2, w2, ?_, trivial, own2, r2, r3, h2.upd r4, h3.trans (r4.mono (by simp))⟩
                    simp only [execOp, resolve, invoke, builtin, Sem.run_bind, Sem.run_pure, Result.andThen_ok, List.map_toArray, List.map_cons, List.map_nil, ev, e116, r1]
                  · refine chain_run (.inl rfl) ⟨_, rfl⟩ (by kernel_rfl) ?_
                    intro a W kst l0 h0 A0 hF hD
                    have k0 : kst = 2 := Nat.le_antisymm h0 l0
                    subst k0
                    clear l0 h0
                    clear hF hD
                    obtain ⟨own1, h1, h4, h2, h3⟩ := A0
                    exact ⟨_, W, by (go_simp; first | done | rfl | exact ⟨rfl, rfl⟩), trivial, own1, by rw [← ev]; exact h1, by rw [← ev]; exact h4, h2, h3⟩
                intro vals W hv hA
                have v0 : vals 0 = .slice none 0 0 := hv 0 (by decide)
                have v1 : vals 1 = .pointer (some ⟨cb, 0, none⟩) := hv 1 (by decide)
                have v2 : vals 2 = .slice (some ⟨g, off, none⟩) NL capL := hv 2 (by decide)
                have v3 : vals 3 = .int .i64 k := hv 3 (by decide)
                have v4 : vals 4 = .pointer (some ⟨g, off + k * 2, none⟩) := hv 4 (by decide)
                have v5 : vals 5 = .pointer (some ⟨g, off + k * 2, none⟩) := hv 5 (by decide)
                have v6 : vals 6 = .int .i64 p.1 := hv 6 (by decide)
                have v7 : vals 7 = .slice (some ⟨g, off, none⟩) NL capL := hv 7 (by decide)
                have v8 : vals 8 = .int .i64 k := hv 8 (by decide)
                have v9 : vals 9 = .pointer (some ⟨g, off + k * 2, none⟩) := hv 9 (by decide)
                have v10 : vals 10 = .pointer (some ⟨g, off + k * 2 + 1, none⟩) := hv 10 (by decide)
                have v11 : vals 11 = .slice aou nu cu := hv 11 (by decide)
                have v12 : vals 12 = .agg #[.int .i64 0, .int .i64 p.1, .int .i64 0, .int .i64 0, .slice aou nu cu] := hv 12 (by decide)
                clear hv
                obtain ⟨own1, h1, h4, h2, h3⟩ := hA
                simp only [putAll, Act.put, Nat.zero_add, Nat.reduceAdd, v0, v1, v2, v3, v4, v5, v6, v7, v8, v9, v10, v11, v12, List.setIfInBounds_toArray, List.set_cons_zero, List.set_cons_succ]
                clear v0 v1 v2 v3 v4 v5 v6 v7 v8 v9 v10 v11 v12
                have HS3 : Hid (MeS2 w W ca cb (meIn false q L (k + 1)) L (.slice (some ⟨g, off, none⟩) NL capL) (vals 15)) := by
                  show MeS2 _ _ _ _ _ _ _ _
                  rw [HE.out]
                  exact ⟨HA.out.far HB.out HNE.out h3, h2, ⟨_, HX.out.far HCALL.out h3⟩, ⟨_, h1⟩, h4, HU.out.trans' h3 (fun x hx => .inr (by simp at hx; subst hx; exact HNEW.out.2))⟩
                generalize vals 15 = vy at *
                clear h1 h2 h3 h4 HX HA HB HU HLT HCS HCU HAV HCALL HFARR HMS HOKK HLR HE
                go_wp2_with fail
                go_roundg (NL - (k + 1))
                case rel => exact ⟨k + 1, by omega, by go_num, by go_num, HS3.out⟩
                case measure => omega
              · have hkn : NL = k := by omega
                subst hkn
                go_wp2_with fail
                go_roundg (4 - (i + 1))
                case rel =>
                  obtain ⟨hsa, hsb, -, hbk, -, hsu⟩ := HS2.out
                  have f5 := F5.out
                  rw [← HNL.out] at f5
                  refine ⟨i + 1, by omega, by go_num, by rw [f5.2], ?_⟩
                  rw [f5.1]
                  exact ⟨hsa, hsb, hbk, hsu⟩
                case measure => omega
        · obtain rfl : i = 4 := by omega
          obtain ⟨hq0, hl0⟩ := HQ0.out
          subst hq0 hl0
          obtain ⟨ka, kb, f1, f2, f3, f4, f5, f6, f7, f8, f9, f10, f11, f12, f13⟩ := me_end x y out wl ⟨h1, h2⟩ ⟨h3, h4⟩ HALL.out HWL.out
          have hst := HST.out
          rw [f1] at hst
          rw [f2]
          clear f1 f2 HST HOKM HQ0
          obtain ⟨hsa, hsb, -, hsu⟩ := hst
          have HA := Lib.hid (show CallAt wr ca ka from hsa)
          have HB := Lib.hid (show CallAt wr cb kb from hsb)
          have HU := Lib.hid hsu
          clear hsa hsb hsu
          have HF := Lib.hid (And.intro f6 (And.intro f10 (And.intro f11 (And.intro f12 f13))))
          have HS5 := Lib.hid (And.intro f5 f9)
          clear f6 f10 f11 f12 f13 f5 f9
          go_wp2_with fail
          have ida := ids_any ca ka _ HA.out HF.out.1
          rw [f3, f4] at ida
          refine ida.mono ?_
          rintro e w7 ⟨rfl, u7⟩
          clear ida f3 f4
          have HA7 := Lib.hid (HA.out.upd u7)
          have HB7 := Lib.hid (HB.out.upd u7)
          have HU7 := Lib.hid (HU.out.trans u7)
          clear u7 HA HB HU
          go_wp2_with fail
          have ida := ids_any cb kb _ HB7.out HF.out.2.1
          rw [f7, f8] at ida
          refine ida.mono ?_
          rintro e w8 ⟨rfl, u8⟩
          clear ida f7 f8
          have HA8 := Lib.hid (HA7.out.upd u8)
          have HB8 := Lib.hid (HB7.out.upd u8)
          have HU8 := Lib.hid (HU7.out.trans u8)
          clear u8 HA7 HB7 HU7
          go_wp2_with fail
          refine (got_any cb kb _ HB8.out HF.out.2.1 HF.out.2.2.2.2).mono ?_
          rintro e w9 ⟨u9, o9, rfl, ho9, u9u⟩
          obtain ⟨a9, c9, hu9, m9, n9⟩ := ho9.shape
          have HV9 := Lib.hid hu9
          subst u9
          have HO9 := Lib.hid ho9
          have HA9 := Lib.hid (HA8.out.upd u9u)
          have HB9 := Lib.hid (HB8.out.upd u9u)
          have HU9 := Lib.hid (HU8.out.trans u9u)
          clear ho9 u9u HA8 HB8 HU8
          cases out
          · go_wp2_with fail
            have hg : kb.got = meC false wl := by simpa using HF.out.2.2.1
            have ho11 := HO9.out
            rw [hg] at ho11 ⊢
            have HA10 := HA9
            have HB10 := HB9
            have HU10 := HU9
            have hml : (meC false wl).length = 3 + n := by simp [meC, HLEN.out]; omega
            have HOW := Lib.hid ho11
            obtain ⟨gq, oq, cq, hvq, -, m11, n11, -⟩ := ho11.form (by omega)
            injection hvq with e1 e2 e3
            subst e1 e3
            clear e2
            rw [hml] at m11 HOW ⊢
            simp only [maxLen] at n11
            have hd := (show AvsAt _ (.slice (some ⟨gq, oq, none⟩) (3 + n) c9) (meC false wl) from hml ▸ AvsAt.of_own ho11).drop 3 (by omega)
            rw [show (meC false wl).drop 3 = wl from rfl, hml, show 3 + n - 3 = n by omega] at hd
            have HD := Lib.hid hd
            clear hd ho11 hml hg
            refine (alive_any _).mono ?_
            rintro e w12 ⟨rfl, u12⟩
            have HA12 := Lib.hid (HA10.out.upd u12)
            have HB12 := Lib.hid (HB10.out.upd u12)
            have HU12 := Lib.hid (HU10.out.trans u12)
            have HD12 := Lib.hid (HD.out.upd u12)
            clear u12 HD
            go_wp2_with fail
            have ida := state_any ca ka w12 HA12.out HF.out.1
            rw [HS5.out.1] at ida
            refine ida.mono ?_
            rintro e w13 ⟨rfl, rfl⟩
            clear ida
            go_wp2_with fail
            have ida := state_any cb kb w12 HB12.out HF.out.2.1
            rw [HS5.out.2] at ida
            refine ida.mono ?_
            rintro e w13 ⟨rfl, rfl⟩
            clear ida
            have es : decide (wl = wl) = true := by simp
            have HES := Lib.hid es
            clear es
            by_cases hc : c9 = 3
            · subst hc
              have hn0 : n = 0 := by omega
              subst hn0
              go_wp2_with fail
              refine (same_av wl wl _ _ _ (by have h := HD12.out; simpa using h) (HL.out.upd HU12.out)).mono ?_
              rintro e w14 ⟨he14, u14⟩
              obtain rfl : e = .returned (.bool true) := he14.trans (by simp)
              go_wp2_with fail
              go_ret
              exact ⟨rfl, HU12.out.trans u14⟩
            · have e15 : (⟨gq, oq, none⟩ : Addr).add (3 * 5) = ⟨gq, oq + 15, none⟩ := by first | rfl | simp [Addr.add]
              have HD13 := HD12.out
              rw [if_neg hc, e15] at HD13
              have HD14 := Lib.hid HD13
              clear HD13 e15
              go_wp2_with fail
              refine (same_av wl wl _ _ _ HD14.out (HL.out.upd HU12.out)).mono ?_
              rintro e w14 ⟨he14, u14⟩
              obtain rfl : e = .returned (.bool true) := he14.trans (by simp)
              go_wp2_with fail
              go_ret
              exact ⟨rfl, HU12.out.trans u14⟩
          · go_wp2_with fail
            refine (got_any ca ka _ HA9.out HF.out.1 HF.out.2.2.2.1).mono ?_
            rintro e w11 ⟨u11, o11, rfl, ho11, q11⟩
            have hg : ka.got = meC true wl := by simpa using HF.out.2.2.1
            rw [hg] at ho11
            have HA10 := Lib.hid (HA9.out.upd q11)
            have HB10 := Lib.hid (HB9.out.upd q11)
            have HU10 := Lib.hid (HU9.out.trans q11)
            clear q11
            have hml : (meC true wl).length = 3 + n := by simp [meC, HLEN.out]; omega
            have HOW := Lib.hid ho11
            obtain ⟨gq, oq, cq, hvq, -, m11, n11, -⟩ := ho11.form (by omega)
            subst hvq
            rw [hml] at m11 HOW ⊢
            simp only [maxLen] at n11
            have hd := (show AvsAt _ (.slice (some ⟨gq, oq, none⟩) (3 + n) cq) (meC true wl) from hml ▸ AvsAt.of_own ho11).drop 3 (by omega)
            rw [show (meC true wl).drop 3 = wl from rfl, hml, show 3 + n - 3 = n by omega] at hd
            have HD := Lib.hid hd
            clear hd ho11 hml hg
            go_wp2_with fail
            refine (alive_any _).mono ?_
            rintro e w12 ⟨rfl, u12⟩
            have HA12 := Lib.hid (HA10.out.upd u12)
            have HB12 := Lib.hid (HB10.out.upd u12)
            have HU12 := Lib.hid (HU10.out.trans u12)
            have HD12 := Lib.hid (HD.out.upd u12)
            clear u12 HD
            go_wp2_with fail
            have ida := state_any ca ka w12 HA12.out HF.out.1
            rw [HS5.out.1] at ida
            refine ida.mono ?_
            rintro e w13 ⟨rfl, rfl⟩
            clear ida
            go_wp2_with fail
            have ida := state_any cb kb w12 HB12.out HF.out.2.1
            rw [HS5.out.2] at ida
            refine ida.mono ?_
            rintro e w13 ⟨rfl, rfl⟩
            clear ida
            have es : decide (wl = wl) = true := by simp
            have HES := Lib.hid es
            clear es
            by_cases hc : cq = 3
            · subst hc
              have hn0 : n = 0 := by omega
              subst hn0
              go_wp2_with fail
              refine (same_av wl wl _ _ _ (by have h := HD12.out; simpa using h) (HL.out.upd HU12.out)).mono ?_
              rintro e w14 ⟨he14, u14⟩
              obtain rfl : e = .returned (.bool true) := he14.trans (by simp)
              go_wp2_with fail
              go_ret
              exact ⟨rfl, HU12.out.trans u14⟩
            · have e15 : (⟨gq, oq, none⟩ : Addr).add (3 * 5) = ⟨gq, oq + 15, none⟩ := by first | rfl | simp [Addr.add]
              have HD13 := HD12.out
              rw [if_neg hc, e15] at HD13
              have HD14 := Lib.hid HD13
              clear HD13 e15
              go_wp2_with fail
              refine (same_av wl wl _ _ _ HD14.out (HL.out.upd HU12.out)).mono ?_
              rintro e w14 ⟨he14, u14⟩
              obtain rfl : e = .returned (.bool true) := he14.trans (by simp)
              go_wp2_with fail
              go_ret
              exact ⟨rfl, HU12.out.trans u14⟩
set_option maxHeartbeats 8000000 in
theorem callMeets_out (x y : Int) (out : Bool) (ao : Option Addr) (n cap : Nat) (h : ¬ (1 ≤ x ∧ x ≤ 65535 ∧ 1 ≤ y ∧ y ≤ 65535)) (w : World) :
    Calls Try.prog 6 #[.int .i64 x, .int .i64 y, .bool out, .slice ao n cap] w fun e w' => e = .returned (.bool true) ∧ Upd [] w w' := by
  have hc : x < 1 ∨ (1 ≤ x ∧ 65535 < x) ∨ (1 ≤ x ∧ x ≤ 65535 ∧ y < 1) ∨ (1 ≤ x ∧ x ≤ 65535 ∧ 1 ≤ y ∧ 65535 < y) := by omega
  clear h
  rcases hc with h | ⟨a1, h⟩ | ⟨a1, a2, h⟩ | ⟨a1, a2, a3, h⟩
  · go_enter Try.func6, Try.ntmps6
    go_wp2_with fail
    refine (alive_any w).mono ?_
    rintro e w1 ⟨rfl, u1⟩
    go_wp2_with fail
    go_ret
    exact ⟨rfl, u1⟩
  · go_enter Try.func6, Try.ntmps6
    go_wp2_with fail
    refine (alive_any w).mono ?_
    rintro e w1 ⟨rfl, u1⟩
    go_wp2_with fail
    go_ret
    exact ⟨rfl, u1⟩
  · go_enter Try.func6, Try.ntmps6
    go_wp2_with fail
    refine (alive_any w).mono ?_
    rintro e w1 ⟨rfl, u1⟩
    go_wp2_with fail
    go_ret
    exact ⟨rfl, u1⟩
  · go_enter Try.func6, Try.ntmps6
    go_wp2_with fail
    refine (alive_any w).mono ?_
    rintro e w1 ⟨rfl, u1⟩
    go_wp2_with fail
    go_ret
    exact ⟨rfl, u1⟩
theorem callMeets_walk {H : Type} {enc : TypeId × Value → H} {v3 : Value} {d0 d1 d2 d3 : DataW H} {p3 : List MemPlace} {W : World} {base : Nat}
    (x : Int) (_ : (Lit.int .i64 x).wf = true) (y : Int) (_ : (Lit.int .i64 y).wf = true) (out : Bool)
    (h3 : DataW.Trod enc Try.prog W 0 (fun _ => true) true 30 v3 d3 p3) (o3 : Value.okWide Try.prog W .any base 30 v3)
    (sz : (DataW.weightsEach Try.prog [3, 3, 4, 30] [d0, d1, d2, d3]).all (· ≤ reachBytes) = true) :
    Calls Try.prog 6 #[.int .i64 x, .int .i64 y, .bool out, v3] W fun e w' => e = .returned (.bool true) ∧ Below W.heap.size W w' := by
  refine Calls.mono (R := fun e w' => e = .returned (.bool true) ∧ Upd [] W w') ?_ fun e w' ⟨he, hu⟩ => ⟨he, hu.below⟩
  obtain ⟨l, hl, hls⟩ := avs_in h3 o3 (wt_each sz (j := 3) rfl rfl)
  obtain ⟨ao, cap, rfl, g1, g2, g3⟩ := id hl
  by_cases h : 1 ≤ x ∧ x ≤ 65535 ∧ 1 ≤ y ∧ y ≤ 65535
  · exact callMeets_in x y out l ao l.length cap W h.1 h.2.1 h.2.2.1 h.2.2.2 hl hls (Lib.hid rfl) ⟨g1, g2⟩
  · exact callMeets_out x y out ao l.length cap h W
end Go.Proofs.Ytihedbaomingpaa
