/- WRITTEN by wip/gen/bkkind.py. The book's Avps: put, grow. -/
import Derived.Test.YtglafpdealjlnaaGreatQBkAvpsB
namespace Go.Proofs.YtglafpdealjlnaaGreat
open Go.RowKit
set_option linter.unusedSimpArgs false
set_option linter.unusedVariables false
set_option maxRecDepth 100000

set_option maxHeartbeats 2000000 in
theorem bkPutAvps {X : List Nat} {g : Nat} {cs : Array Value} {R : List (Bit Av)} (w0 w : World) (hB : Blk w g 49 cs) (h : KindAt bkCAvps 85 22 5 6 X w0 w cs R) :
    Calls Tryz.prog 129 #[.pointer (some ⟨g, 0, none⟩)] w (PutPost bkCAvps 85 22 5 6 bkMAvps w0 w cs) := by
  obtain ⟨ao, cap, oo, aw, cw, ow, C, a1, a2, a3, a4, a5, a6, a7, a8, a9, a10, a11, x1, x2, x3⟩ := h
  obtain ⟨n, hn⟩ : ∃ n, n = R.length := ⟨_, rfl⟩
  rw [← hn] at a1 a3 a10
  have HR : ∀ b ∈ R, Held bkCAvps 85 5 w b := fun b hb => a9.heldA (List.mem_map_of_mem (f := fun b => (b, b)) hb)
  have hone : ∀ u ∈ R.map Bit.v, u.oneCell' = true := fun u hu => by obtain ⟨b, hb, rfl⟩ := List.mem_map.1 hu; exact (HR b hb).one
  have hcap : n ≤ cap ∧ cap ≤ maxLen := by
    obtain ⟨x, c', e1, k1, k2⟩ := a3.shape
    injection e1 with _ _ e1
    subst e1
    exact ⟨k1, k2⟩
  obtain ⟨q1, q2⟩ := hcap
  simp only [maxLen] at q2
  have HB := Lib.hid hB
  have HA := Lib.hid a1
  have HO := Lib.hid a3
  have HONE := Lib.hid hone
  have HS0 := Lib.hid (And.intro a9 a11)
  have HN := Lib.hid hn
  clear a1 a2 a3 a4 a5 a6 a7 a8 a9 a11 x1 x2 x3 HR hB hn hone
  go_enter Tryz.func129, Tryz.ntmps129
  go_wp2_with fail
  go_loopg [2] n (fun m s2 wr => ∃ (k : Nat) (L : List (Bit Av)), k + m = n ∧ s2 = .int .i64 k ∧ L.map Bit.v = R.map Bit.v ∧ (∀ j b, L[j]? = some b → j < k → b.l = marks bkMAvps j 0 b.l.length) ∧ (∀ b ∈ L, b.l.length ≤ 100000) ∧
    Sep w0 wr ((L.map fun b => (b, b)).map (duoT bkCAvps 85 5)) ∧ UpdT [85] w0.heap.size w wr)
  case atStart => exact ⟨0, R, by omega, rfl, rfl, fun _ _ _ h => by omega, HS0.out.2, HS0.out.1, UpdT.refl _ _ _⟩
  case round =>
    obtain ⟨k, L, hk, rfl, hv, hm, hl, sp, hu⟩ := hrel
    have hLn : L.length = n := by have := congrArg List.length hv; simpa [← HN.out] using this
    have HV := Lib.hid hv
    have HMK := Lib.hid hm
    have HLL := Lib.hid hl
    have HSP := Lib.hid sp
    have HU := Lib.hid hu
    have HLN := Lib.hid hLn
    have hBr := HB.out.updT hu (by decide)
    have HBR := Lib.hid hBr
    have c0 := hBr.cell 12
    rw [HA.out] at c0
    have HOR := Lib.hid (HO.out.updT hu (by decide))
    by_cases t : k < n
    · obtain ⟨b, hb⟩ : ∃ x, L[k]? = some x := ⟨_, List.getElem?_eq_getElem (by omega)⟩
      have hbv : (R.map Bit.v)[k]? = some b.v := by rw [← hv, List.getElem?_map, hb]; rfl
      obtain ⟨q, hq, d0⟩ := (HOR.out.rdB HONE.out).one hbv
      subst hq
      have Hb := sp.heldA (List.mem_map_of_mem (f := fun b => (b, b)) (List.mem_of_getElem? hb))
      have hnb := hl b (List.mem_of_getElem? hb)
      obtain ⟨ba, bc, e1⟩ := Hb.slice
      obtain ⟨nb, hnb2⟩ : ∃ x, x = b.l.length := ⟨_, rfl⟩
      rw [← hnb2] at e1 hnb
      have Hb' := Hb
      unfold Held at Hb'
      rw [e1, ← hnb2] at Hb'
      have HBB := Lib.hid Hb'
      have HE := Lib.hid e1
      have HBI := Lib.hid hb
      have HNB := Lib.hid hnb2
      have gnb : g ∉ b.own := Hb.ne_blk HBR.out (by decide)
      have onb : ∀ y ∈ oo, y ∉ b.own := HOR.out.ne_own Hb (by decide)
      have blt := Hb.lt
      have HX := Lib.hid (And.intro gnb (And.intro onb blt))
      rw [e1] at d0
      have hbvE := hbv
      rw [e1] at hbvE
      have HBVE := Lib.hid hbvE
      have HBI2 := Lib.hid hbv
      clear hv hm hl sp hu hBr hLn hb hbv Hb e1 hnb2 Hb' gnb onb blt hbvE
      go_wp2_with fail
      refine (bkMarkAvps k 0 nb _ (by omega) (by omega) (by omega)).mono ?_
      rintro e w3 ⟨aM, cM, oM, rfl, hoM, hfM, huM⟩
      rw [marks_length] at hoM
      rw [marks_length]
      have hsM : nb ≤ cM ∧ cM ≤ maxLen := by
        obtain ⟨x, c', e1, k1, k2⟩ := hoM.shape
        injection e1 with _ _ e1
        subst e1
        exact ⟨k1, k2⟩
      obtain ⟨qm1, qm2⟩ := hsM
      simp only [maxLen] at qm2
      have HM := Lib.hid hoM
      have HDM : Hid (∀ y ∈ oM, y ∉ b.own) := fun y hy hy2 => by
        have := hfM y hy
        have := HX.out.2.2 y hy2
        omega
      have HUM := Lib.hid huM
      have HB3 := Lib.hid (HBR.out.upd huM (by simp))
      have HO3 := Lib.hid (HOR.out.updD huM)
      have HBB3 := Lib.hid (HBB.out.updD huM)
      clear hoM hfM huM c0 d0
      go_wp2_with fail
      go_loopg [4] nb (fun m2 s4 wi => ∃ j : Nat, j + m2 = nb ∧ s4 = .int .i64 j ∧ Own wi 85 5 (.slice ba nb bc) nb ((marks bkMAvps k 0 j ++ b.l.drop j).flatMap bkCAvps) b.own ∧ Upd b.own w3 wi)
      case atStart => exact ⟨0, by omega, rfl, HBB3.out, Upd.refl _ _⟩
      case round =>
        obtain ⟨j, hj, rfl, ho, hui⟩ := hrel
        have HOJ := Lib.hid ho
        have HUI := Lib.hid hui
        by_cases tj : j < nb
        · have c0 := (HB3.out.upd hui HX.out.1).cell 12
          rw [HA.out] at c0
          obtain ⟨q', hq', d0⟩ := ((HO3.out.upd hui HX.out.2.1).rdB HONE.out).one HBVE.out
          injection hq' with hq'
          subst hq'
          obtain ⟨qm, rfl, z0, zj⟩ := (HM.out.upd hui HDM.out).rdB (bkCAvps_one _) |>.at bkCAvps_len (marks_get bkMAvps k 0 nb j tj) (by decide)
          have m0 := z0 _ rfl
          have m1 := zj 1 _ (by omega) rfl
          have m2 := zj 2 _ (by omega) rfl
          have m3 := zj 3 _ (by omega) rfl
          have m4 := zj 4 _ (by omega) rfl
          clear z0 zj
          obtain ⟨gb, off, rfl, hown, htc, htf, qb1, qb2⟩ := ho.target tj
          simp only [maxLen] at qb2
          obtain ⟨p, hp⟩ : ∃ p, p = (⟨gb, off, none⟩ : Addr) := ⟨_, rfl⟩
          obtain ⟨o2, ho2'⟩ : ∃ x, off + j * 5 = x := ⟨_, rfl⟩
          have hpj : p.add (j * 5) = ⟨gb, o2, none⟩ := by rw [hp, add_plain', ← ho2']
          have ho2 := Lib.hid ho2'
          clear ho2'
          rw [← hp] at d0
          rw [← hp]
          obtain ⟨u0, t0⟩ := htc 0 (by decide)
          rw [Nat.add_zero] at t0
          rw [ho2.out] at t0
          have f0 : wr.frozen? ⟨gb, o2, none⟩ = false := htf _
          obtain ⟨u1, t1⟩ := htc 1 (by decide)
          rw [ho2.out] at t1
          have f1 : wr.frozen? ⟨gb, o2 + 1, none⟩ = false := htf _
          obtain ⟨u2, t2⟩ := htc 2 (by decide)
          rw [ho2.out] at t2
          have f2 : wr.frozen? ⟨gb, o2 + 2, none⟩ = false := htf _
          obtain ⟨u3, t3⟩ := htc 3 (by decide)
          rw [ho2.out] at t3
          have f3 : wr.frozen? ⟨gb, o2 + 3, none⟩ = false := htf _
          obtain ⟨u4, t4⟩ := htc 4 (by decide)
          rw [ho2.out] at t4
          have f4 : wr.frozen? ⟨gb, o2 + 4, none⟩ = false := htf _
          have HP := Lib.hid (And.intro hp hown)
          clear ho hui htc htf hp hown
          go_wp2_with fail
          go_region
          go_wp2_with fail
          have hp := HP.out.1
          subst hp
          go_roundg (nb - (j + 1))
          case rel =>
            have hjl : j < b.l.length := by have := HNB.out; omega
            have hlen : (marks bkMAvps k 0 j ++ b.l.drop j).length = nb := by rw [List.length_append, marks_length, List.length_drop, ← HNB.out]; omega
            have hs := Own.setAt (bkCAvps_len) HOJ.out (x := bkMAvps k j) (by rw [hlen]; exact tj) hlen
            rw [marks_set _ _ _ _ hjl, ho2.out] at hs
            exact ⟨j + 1, by omega, by go_num, hs.1, (HUI.out.trans hs.2).drew⟩
          case measure => omega
        · obtain rfl : j = nb := by omega
          clear ho hui
          go_wp2_with fail
          go_roundg (n - (k + 1))
          case rel =>
            have ho := HOJ.out
            rw [List.drop_of_length_le (by have := HNB.out; omega), List.append_nil] at ho
            have hw := HSP.out.writeDuo (u := ⟨b.v, marks bkMAvps k 0 j, b.own⟩) HBI.out rfl (by
              show Own _ _ _ _ _ _ _
              rw [HE.out, marks_length]
              exact ho) ((HUM.out.mono (by simp)).trans HUI.out)
            refine ⟨k + 1, _, by omega, by go_num, ?_, ?_, ?_, hw.1, HU.out.trans hw.2⟩
            · rw [List.map_set, HV.out]
              exact set_same HBI2.out
            · intro x d hd hx
              rw [List.getElem?_set] at hd
              split at hd
              · rename_i hxk
                subst hxk
                split at hd
                · injection hd with hd
                  subst hd
                  rw [marks_length]
                · cases hd
              · exact HMK.out x d hd (by omega)
            · intro d hd
              rcases List.mem_or_eq_of_mem_set hd with hd | rfl
              · exact HLL.out d hd
              · rw [marks_length]; exact hnb
          case measure => omega
    · obtain rfl : k = n := by omega
      clear hv hm hl sp hu hBr
      go_wp2_with fail
      go_end0
      have hlr : L.length = R.length := HLN.out.trans HN.out
      have ho := HOR.out
      rw [← HV.out] at ho
      have ha := HA.out
      rw [← HLN.out] at ho ha
      exact ⟨rfl, ⟨ao, cap, oo, L, ha, ho, fun x d hd => HMK.out x d hd (by have := (List.getElem?_eq_some_iff.1 hd).1; have := HLN.out; omega), HSP.out, by have := HLN.out; omega, HLL.out⟩, HU.out⟩

end Go.Proofs.YtglafpdealjlnaaGreat
