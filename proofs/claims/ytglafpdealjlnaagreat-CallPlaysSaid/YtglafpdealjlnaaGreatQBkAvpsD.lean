/- WRITTEN by wip/gen/bkkind.py. The book's Avps: grow. -/
import Derived.Test.YtglafpdealjlnaaGreatQBkAvpsC
namespace Go.Proofs.YtglafpdealjlnaaGreat
open Go.RowKit
set_option linter.unusedSimpArgs false
set_option linter.unusedVariables false
set_option maxRecDepth 100000

/-- Some marks, of which there is at least one. -/
theorem bkMarkPAvps (i k n : Nat) (w : World) (hi : i ≤ 1000) (hk : k ≤ 1000000) (hn : n ≤ 1000000) (h0 : 0 < n) :
    Calls Tryz.prog 268 #[.int .i64 i, .int .i64 k, .int .i64 n] w fun e w' => ∃ q cap, e = .returned (.slice (some q) n cap) ∧ (∀ j u, ((marks bkMAvps i k n).flatMap bkCAvps)[j]? = some u → w'.cell? (q.add j) = some u) ∧ Upd [] w w' := by
  refine (bkMarkAvps i k n w hi hk hn).mono ?_
  rintro e w' ⟨ao, cap, own, rfl, ho, -, hu⟩
  rw [marks_length] at ho ⊢
  obtain ⟨g, off, cap', hv, -, -, -, hc⟩ := ho.form h0
  injection hv with h1 h2 h3
  subst h1 h3
  exact ⟨_, _, rfl, fun j u hj => by rw [add_plain']; exact hc j u hj, hu⟩
set_option maxHeartbeats 4000000 in
theorem bkGrowAvps {g : Nat} {cs : Array Value} (w0 w : World) (hB : Blk w g 49 cs) (h : KindPut bkCAvps 85 22 5 6 bkMAvps w0 w cs) :
    Calls Tryz.prog 144 #[.pointer (some ⟨g, 0, none⟩)] w (GrowPost bkCAvps 85 22 5 6 bkMAvps w0 w cs) := by
  obtain ⟨ao, cap, oo, R, a1, a3, a7, a9, a10, a11⟩ := h
  obtain ⟨n, hn⟩ : ∃ n, n = R.length := ⟨_, rfl⟩
  rw [← hn] at a1 a3 a10
  have HR : ∀ b ∈ R, Held bkCAvps 85 5 w b := fun b hb => a9.heldA (List.mem_map_of_mem (f := fun b => (b, b)) hb)
  have hone : ∀ u ∈ R.map Bit.v, u.oneCell' = true := fun u hu => by obtain ⟨b, hb, rfl⟩ := List.mem_map.1 hu; exact (HR b hb).one
  have hcap : n ≤ cap ∧ cap ≤ maxLen := by
    obtain ⟨x, c', e1, k1, k2⟩ := a3.shape
    injection e1 with _ _ e1
    subst e1
    exact ⟨k1, k2⟩
  obtain ⟨q1, q2⟩ := hcap
  simp only [maxLen] at q2
  obtain ⟨io, hio, zo0, zo1, zo2⟩ := info_parts bkOAvps
  obtain ⟨i0, hi0, zi0, zi1, zi2⟩ := info_parts bkIAvps
  have HB := Lib.hid hB
  have HA := Lib.hid a1
  have HO := Lib.hid a3
  have HONE := Lib.hid hone
  have HS0 := Lib.hid a9
  have HMK := Lib.hid a7
  have HLL := Lib.hid a11
  have HN := Lib.hid hn
  have hR0 : (R.map fun b => (b, b)).map (fun d : Bit Av × Bit Av => d.1) = R := by rw [List.map_map]; exact List.map_id R
  have HR0 := Lib.hid hR0
  clear a1 a3 a7 a9 a11 HR hB hn hone hR0
  go_enter Tryz.func144, Tryz.ntmps144
  go_wp2_with fail
  go_loopg [3, 4] n (fun m s3 s4 wr => ∃ (k : Nat) (aO : Option Addr) (cO : Nat) (oO : List Nat) (L : List (Bit Av × Bit Av)), k + m = n ∧ s4 = .int .i64 k ∧ s3 = .slice aO k cO ∧
    Own wr 22 1 (.slice aO k cO) k ((L.take k).map fun d => d.2.v) oO ∧ (∀ y ∈ oO, w.heap.size ≤ y) ∧ L.map (fun d => d.1) = R ∧ (∀ j d, L[j]? = some d → j < k → d.2.l = marks bkMAvps j 0 (d.1.l.length + 72)) ∧
    (∀ j d, L[j]? = some d → k ≤ j → d.2 = d.1) ∧ Sep w0 wr (L.map (duoT bkCAvps 85 5)) ∧ UpdT [85] w0.heap.size w wr)
  case atStart =>
    refine ⟨0, none, 0, [], R.map fun b => (b, b), by omega, rfl, rfl, Own.nil _ _ _, by simp, HR0.out, fun _ _ _ h => by omega, fun j d hd _ => ?_, HS0.out, UpdT.refl _ _ _⟩
    rw [List.getElem?_map] at hd
    cases h : R[j]? with
    | none => rw [h] at hd; cases hd
    | some b => rw [h] at hd; injection hd with hd; subst hd; rfl
  case round =>
    obtain ⟨k, aO, cO, oO, L, hk, rfl, rfl, hO, hOf, hL1, hLm, hLs, sp, hu⟩ := hrel
    have hLn : L.length = n := by have := congrArg List.length hL1; simpa [← HN.out] using this
    have HLN := Lib.hid hLn
    have HOO := Lib.hid hO
    have HOF := Lib.hid hOf
    have HL1 := Lib.hid hL1
    have HLM := Lib.hid hLm
    have HLS := Lib.hid hLs
    have HSP := Lib.hid sp
    have HU := Lib.hid hu
    have hBr := HB.out.updT hu (by decide)
    have HBR := Lib.hid hBr
    have c0 := hBr.cell 12
    rw [HA.out] at c0
    have HOR := Lib.hid (HO.out.updT hu (by decide))
    have hsz := Lib.hid hu.size
    have hkc : k ≤ cO ∧ cO ≤ maxLen := by
      obtain ⟨x, c', e1, k1, k2⟩ := hO.shape
      injection e1 with _ _ e1
      subst e1
      exact ⟨k1, k2⟩
    obtain ⟨qk1, qk2⟩ := hkc
    simp only [maxLen] at qk2
    by_cases t : k < n
    · obtain ⟨d, hd⟩ : ∃ x, L[k]? = some x := ⟨_, List.getElem?_eq_getElem (by omega)⟩
      obtain ⟨b0, b⟩ := d
      have hbb : b = b0 := hLs k (b0, b) hd (Nat.le_refl _)
      subst hbb
      have hRb : R[k]? = some b := by rw [← hL1, List.getElem?_map, hd]; rfl
      have hbv : (R.map Bit.v)[k]? = some b.v := by rw [List.getElem?_map, hRb]; rfl
      obtain ⟨q, hq, d0⟩ := (HOR.out.rdB HONE.out).one hbv
      subst hq
      have Hb := sp.heldA (List.mem_of_getElem? hd)
      have hnb := HLL.out b (List.mem_of_getElem? hRb)
      obtain ⟨ba, bc, e1⟩ := Hb.slice
      obtain ⟨nb, hnb2⟩ : ∃ x, x = b.l.length := ⟨_, rfl⟩
      rw [← hnb2] at e1 hnb
      rw [e1] at d0
      have HE := Lib.hid e1
      have HD := Lib.hid hd
      have HNB := Lib.hid hnb2
      have HMB := Lib.hid (HMK.out k b hRb)
      have HRB := Lib.hid hRb
      have hLset := Lib.hid (set_same hd)
      clear hO hOf hL1 hLm hLs sp hu hBr hLn hd hRb hbv Hb e1 hnb2
      go_wp2_with fail
      go_loopg [5, 6] 12 (fun m2 s5 s6 wi => ∃ (j x cu : Nat) (au : Option Addr) (ou : List Nat), j + m2 = 12 ∧ x = nb + j ∧ s6 = .int .i64 j ∧ s5 = .slice au x cu ∧
        Sep w0 wi ((L.set k (b, ⟨.slice au x cu, marks bkMAvps k 0 x, ou⟩)).map (duoT bkCAvps 85 5)) ∧ UpdT [85] w0.heap.size wr wi)
      case atStart =>
        refine ⟨0, nb, bc, ba, b.own, rfl, rfl, rfl, rfl, ?_, UpdT.refl _ _ _⟩
        have e2 : (⟨.slice ba nb bc, marks bkMAvps k 0 nb, b.own⟩ : Bit Av) = b := by
          have h1 := HMB.out
          rw [← HNB.out] at h1
          rw [← HE.out, ← h1]
        rw [e2, hLset.out]
        exact HSP.out
      case round =>
        obtain ⟨j, x, cu, au, ou, hj, hx, rfl, rfl, sp, hu⟩ := hrel
        have HX := Lib.hid hx
        have HSP2 := Lib.hid sp
        have HU2 := Lib.hid hu
        have hkL : (L.set k (b, (⟨.slice au x cu, marks bkMAvps k 0 x, ou⟩ : Bit Av)))[k]? = some (b, ⟨.slice au x cu, marks bkMAvps k 0 x, ou⟩) := by
          rw [List.getElem?_set_self (by have := HLN.out; omega)]
        have HKL := Lib.hid hkL
        have ho := sp.heldB (List.mem_of_getElem? hkL)
        unfold Held at ho
        simp only [marks_length] at ho
        have hxc : x ≤ cu ∧ cu ≤ maxLen := by
          obtain ⟨x', c', e1, k1, k2⟩ := ho.shape
          injection e1 with _ _ e1
          subst e1
          exact ⟨k1, k2⟩
        obtain ⟨qx1, qx2⟩ := hxc
        simp only [maxLen] at qx2
        have hxb : x ≤ 100100 := by omega
        have HOU := Lib.hid ho
        clear ho hkL sp hu hx
        by_cases t2 : j < 12
        · go_wp2_with (first
            | (go_at_call 268; refine (bkMarkPAvps k x 1 _ (by omega) (by omega) (by omega) (by omega)).mono ?_; rintro e w3 ⟨qM, cM, rfl, hcM, huM⟩; have HCM := Lib.hid hcM; have HUM := Lib.hid huM; clear hcM huM)
            | (at_builtin; refine wpList_append_Duo _ rfl (.tmp 27) (.tmp 31) 22 rfl 85 i0 _ 5 40 Tryz.underlying22 hi0 zi0 zi1 zi2 rfl (by decide) (.slice au x cu) x _ ou (by simp [Act.eval]) (HOU.out.updD HUM.out) qM 1 cM ((marks bkMAvps k x 1).flatMap bkCAvps) (by simp [Act.eval]) (by rw [flat_length bkCAvps_len, marks_length]) HCM.out (bkCAvps_one _) (by decide) (by simp only [maxLen]; omega) (by omega) ?_; intro g4 off4 cap4 w4 own4 ho4 hc4; have HO4 := Lib.hid ho4; have HC4 := Lib.hid hc4; clear ho4 hc4))
          go_roundg (12 - (j + 1))
          case rel =>
            have spM := HSP2.out.keep HUM.out
            have hg := spM.growDuo (g := g4) (off := off4) (cap := cap4) (m := 1) HKL.out (u' := ⟨.slice (some ⟨g4, off4, none⟩) (x + 1) cap4, marks bkMAvps k 0 (x + 1), own4⟩) (news := marks bkMAvps k x 1) (marks_length _ _ _ _).symm (marks_add bkMAvps k x 1).symm (by simp only [marks_length]) (by simp only [marks_length]; exact HO4.out) (by simp only [marks_length]; exact HC4.out)
            rw [List.set_set] at hg
            exact ⟨j + 1, x + 1, cap4, _, own4, by omega, by have := HX.out; omega, by go_num, rfl, hg.1, (HU2.out.nil HUM.out).trans hg.2⟩
          case measure => omega
        · obtain rfl : j = 12 := by omega
          have hoW := Lib.hid (HOO.out.updT HU2.out (by decide))
          go_wp2_with (first
            | (go_at_call 268; refine (bkMarkPAvps k x 60 _ (by omega) (by omega) (by omega) (by omega)).mono ?_; rintro e w3 ⟨qM, cM, rfl, hcM, huM⟩; have HCM := Lib.hid hcM; have HUM := Lib.hid huM; clear hcM huM)
            | (at_builtin; refine wpList_append_Duo _ rfl (.tmp 34) (.tmp 38) 22 rfl 85 i0 _ 5 40 Tryz.underlying22 hi0 zi0 zi1 zi2 rfl (by decide) (.slice au x cu) x _ ou (by simp [Act.eval]) (HOU.out.updD HUM.out) qM 60 cM ((marks bkMAvps k x 60).flatMap bkCAvps) (by simp [Act.eval]) (by rw [flat_length bkCAvps_len, marks_length]) HCM.out (bkCAvps_one _) (by decide) (by simp only [maxLen]; omega) (by omega) ?_; intro g4 off4 cap4 w4 own4 ho4 hc4; have HO4 := Lib.hid ho4; have HC4 := Lib.hid hc4; clear ho4 hc4; have spM := HSP2.out.keep HUM.out; have HG := Lib.hid (spM.growDuo (g := g4) (off := off4) (cap := cap4) (m := 60) HKL.out (u' := ⟨.slice (some ⟨g4, off4, none⟩) (x + 60) cap4, marks bkMAvps k 0 (x + 60), own4⟩) (news := marks bkMAvps k x 60) (marks_length _ _ _ _).symm (marks_add bkMAvps k x 60).symm (by simp only [marks_length]) (by simp only [marks_length]; exact HO4.out) (by simp only [marks_length]; exact HC4.out)); clear spM; have HOUT := Lib.hid ((hoW.out.updD HUM.out).updT HG.out.2 (by decide)))
            | (at_builtin; refine wpList_append_Own _ rfl (.tmp 33) (.tmp 40) 36 rfl 22 io _ 1 24 Tryz.underlying36 hio zo0 zo1 zo2 rfl (by decide) (.slice aO k cO) k _ oO (by simp [Act.eval]) (Own.alloc _ HOUT.out) ⟨w4.heap.size, 0, none⟩ 1 1 [.slice (some ⟨g4, off4, none⟩) (x + 60) cap4] (by simp [Act.eval]) rfl (World.news_of_block (Blk.new _ _ _)) (by simp [Value.oneCell']) (by decide) (by simp only [maxLen]; omega) (by omega) ?_; intro g5 off5 cap5 w5 own5 ho5 hin5 hu5; have HO5 := Lib.hid ho5; have HIN5 := Lib.hid hin5; have HU5 := Lib.hid hu5; clear ho5 hin5 hu5))
          go_roundg (n - (k + 1))
          case rel =>
            have hz : w.heap.size ≤ w4.heap.size := Nat.le_trans hsz.out ((HU2.out.nil HUM.out).trans HG.out.2).size
            have hg1 := HG.out.1
            rw [List.set_set] at hg1
            have hua : Upd oO w4 w5 := ((Upd.refl oO w4).alloc (.cells #[.slice (some ⟨g4, off4, none⟩) (x + 60) cap4] 22)).trans HU5.out
            have huT : UpdT [85] w0.heap.size w w4 := (HU.out.trans (HU2.out.nil HUM.out)).trans HG.out.2
            have hun : UpdT [22] w.heap.size w4 w5 := HOUT.out.updT_of hua HOF.out
            have hspF : Sep w0 w5 ((L.set k (b, ⟨.slice (some ⟨g4, off4, none⟩) (x + 60) cap4, marks bkMAvps k 0 (x + 60), own4⟩)).map (duoT bkCAvps 85 5)) := by
              have h0 : w0.heap.size ≤ w.heap.size := HS0.out.upd.size
              exact hg1.updTD ⟨hun.os, hun.tape, hun.output, hun.size, fun i hi hn => hun.block i hi fun hl => hn (by omega)⟩ (by decide)
            refine ⟨k + 1, _, cap5, own5, _, by omega, by go_num, rfl, ?_, fun y hy => ?_, ?_, ?_, ?_, hspF, ?_⟩
            · have h5 := HO5.out
              have htk : ((L.set k (b, (⟨.slice (some ⟨g4, off4, none⟩) (x + 60) cap4, marks bkMAvps k 0 (x + 60), own4⟩ : Bit Av))).take (k + 1)).map (fun d => d.2.v) = (L.take k).map (fun d => d.2.v) ++ [.slice (some ⟨g4, off4, none⟩) (x + 60) cap4] := by
                rw [List.take_set, List.take_succ_eq_append_getElem (by have := HLN.out; omega), List.set_append_right _ _ (by rw [List.length_take]; omega), List.map_append]
                have : k - (L.take k).length = 0 := by rw [List.length_take]; have := HLN.out; omega
                rw [this]; rfl
              rw [htk]
              exact h5
            · rcases HIN5.out y hy with h | h
              · exact HOF.out y h
              · have h6 : w4.heap.size ≤ y := Nat.le_trans (by simp) h
                omega
            · rw [List.map_set, HL1.out]
              exact set_same HRB.out
            · intro y d hd hy
              rw [List.getElem?_set] at hd
              split at hd
              · rename_i hxk
                subst hxk
                split at hd
                · injection hd with hd
                  subst hd
                  have h1 := HX.out
                  have h2 := HNB.out
                  show marks bkMAvps k 0 (x + 60) = marks bkMAvps k 0 (b.l.length + 72)
                  congr 1
                  omega
                · cases hd
              · exact HLM.out y d hd (by omega)
            · intro y d hd hy
              rw [List.getElem?_set, if_neg (by omega)] at hd
              exact HLS.out y d hd (by omega)
            · refine huT.thenUpd hua fun y hy => .inl (HOF.out y hy)
          case measure => omega
    · obtain rfl : k = n := by omega
      clear hO hOf hL1 hLm hLs sp hu hBr
      go_wp2_with fail
      go_ret
      have hk2 := HLN.out
      have hOx := HOO.out
      rw [List.take_of_length_le (by omega)] at hOx
      have hl2 : (L.map fun d => d.2).length = k := by rw [List.length_map]; exact hk2
      have hlr : R.length = k := HN.out.symm
      refine ⟨_, _, rfl, ?_, HA.out, ?_, HU.out⟩
      · refine ⟨aO, cO, oO, L.map fun d => d.2, by rw [hl2]; rfl, by rw [hl2, List.map_map]; exact hOx, ?_, ?_, by omega, ?_⟩
        · intro j d hd
          rw [List.getElem?_map] at hd
          cases hj : L[j]? with
          | none => rw [hj] at hd; cases hd
          | some p =>
            rw [hj] at hd
            injection hd with hd
            subst hd
            have h1 := HLM.out j p hj (by have := (List.getElem?_eq_some_iff.1 hj).1; omega)
            have h2 : p.2.l.length = p.1.l.length + 72 := by rw [h1, marks_length]
            rw [h2]
            exact h1
        · intro d hd
          obtain ⟨p, hp, rfl⟩ := List.mem_map.1 hd
          exact HSP.out.heldB hp
        · intro d hd
          obtain ⟨p, hp, rfl⟩ := List.mem_map.1 hd
          obtain ⟨j, hj⟩ := List.mem_iff_getElem?.1 hp
          have h1 := HLM.out j p hj (by have := (List.getElem?_eq_some_iff.1 hj).1; omega)
          rw [h1, marks_length]
          have h3 : p.1 ∈ R := by rw [← HL1.out]; exact List.mem_map_of_mem hp
          have := HLL.out p.1 h3
          omega
      · refine ⟨ao, cap, oo, R, by rw [hlr], by rw [hlr]; exact HOR.out, HMK.out, fun d hd => ?_, by omega, fun d hd => by have := HLL.out d hd; omega⟩
        rw [← HL1.out] at hd
        obtain ⟨p, hp, rfl⟩ := List.mem_map.1 hd
        exact HSP.out.heldA hp

end Go.Proofs.YtglafpdealjlnaaGreat
