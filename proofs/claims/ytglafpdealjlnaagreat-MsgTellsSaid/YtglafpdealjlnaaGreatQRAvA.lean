/- The walks of the document's own Find, Num, Same (chapter 18), text (chapter 20). -/
import Derived.Test.YtglafpdealjlnaaGreatQRefW
import Derived.Test.YtglafpdealjlnaaGreatQRely
namespace Go.Proofs.YtglafpdealjlnaaGreat
open Go.RowKit
set_option linter.unusedSimpArgs false
set_option linter.unusedVariables false
set_option maxRecDepth 100000

set_option maxHeartbeats 1000000 in
theorem rfind18_any (l : List Av) (v : Value) (kind : Int) (w : World) (hl : AvsAt w v l) :
    Calls Tryz.prog 95 #[v, .int .i64 kind] w fun e w' => e = .returned (.tuple #[.string (findAv kind l).1, .bool (findAv kind l).2]) ∧ Upd [] w w' := by
  obtain ⟨r0, r1, hr⟩ : ∃ a b, findAv kind l = (a, b) := ⟨_, _, rfl⟩
  rw [hr]
  have HR := Lib.hid hr
  clear hr
  obtain ⟨ao, cap, rfl, h1, h2, h3⟩ := id hl
  obtain ⟨n, hn⟩ : ∃ n, n = l.length := ⟨_, rfl⟩
  rw [← hn] at h1
  rw [← hn]
  have HL := Lib.hid hl
  have HN := Lib.hid hn
  simp only [maxLen] at h2
  clear h3 hl hn
  go_enter Tryz.func95, Tryz.ntmps95
  go_wp2_with fail
  go_loopg [6] n (fun m s6 wr => ∃ k : Nat, k + m = n ∧ s6 = .int .i64 k ∧ l.find? (avIs kind) = (l.drop k).find? (avIs kind) ∧ Upd [] w wr)
  case atStart => exact ⟨0, by omega, rfl, rfl, Upd.refl _ _⟩
  case round =>
    obtain ⟨k, hk, rfl, hf, hu⟩ := hrel
    by_cases t : k < n
    · obtain ⟨x, hx⟩ : ∃ x, l[k]? = some x := by
        have := HN.out
        exact ⟨_, List.getElem?_eq_getElem (by omega)⟩
      obtain ⟨ao', cap', e0, _, _, h3⟩ := HL.out.upd hu
      injection e0 with e0 _ e2
      subst e0 e2
      obtain ⟨q, rfl, c0, c1, c2, c3, c4⟩ := h3 k x hx
      clear h3
      have hd : l.drop k = x :: l.drop (k + 1) := by
        obtain ⟨h5, h6⟩ := List.getElem?_eq_some_iff.1 hx
        rw [List.drop_eq_getElem_cons h5, h6]
      rw [hd, List.find?_cons] at hf
      have HU := Lib.hid hu
      clear hd hu hx
      cases t0 : (x.vendor == 0)
      · have e1 : avIs kind x = false := by unfold avIs; rw [t0]; rfl
        rw [e1] at hf
        have HF := Lib.hid hf
        clear hf e1
        go_wp2_with fail
        go_roundg (n - (k + 1))
        case rel => exact ⟨k + 1, by omega, by go_num, HF.out, HU.out⟩
        case measure => omega
      · cases t1 : (x.kind == kind)
        · have e1 : avIs kind x = false := by unfold avIs; rw [t0, t1]; rfl
          rw [e1] at hf
          have HF := Lib.hid hf
          clear hf e1
          go_wp2_with fail
          go_roundg (n - (k + 1))
          case rel => exact ⟨k + 1, by omega, by go_num, HF.out, HU.out⟩
          case measure => omega
        · have e1 : avIs kind x = true := by unfold avIs; rw [t0, t1]; rfl
          rw [e1] at hf
          have h9 := HR.out
          rw [findAv, hf] at h9
          injection h9 with h9 h10
          subst h9 h10
          clear hf e1
          go_wp2_with fail
          go_ret2
          exact ⟨rfl, HU.out⟩
    · obtain rfl : k = n := by omega
      have hd : l.drop k = [] := by rw [HN.out]; simp
      rw [hd] at hf
      have h9 := HR.out
      rw [findAv, hf] at h9
      simp only [List.find?_nil] at h9
      injection h9 with h9 h10
      subst h9 h10
      clear hf hd
      go_wp2_with fail
      go_ret2
      exact ⟨rfl, hu⟩
set_option maxHeartbeats 1000000 in
theorem rnum18_any (kind v : Int) (n : Nat) (hn : 1 ≤ n ∧ n ≤ 8) (hv : -9223372036854775808 ≤ v ∧ v ≤ 9223372036854775807) (w : World) :
    Calls Tryz.prog 96 #[.int .i64 kind, .int .i64 v, .int .i64 n] w fun e w' => e = .returned (numAv kind v n).agg ∧ Upd [] w w' := by
  have h1 : (1 : Int) ≤ n := by omega
  have h2 : (n : Int) ≤ 8 := by omega
  have HV := Lib.hid hv
  obtain ⟨wz, hwz⟩ : ∃ wz, wz = (w.alloc (.cells #[.bool false, .bool false, .int .i64 0, .int .i64 0, .string ⟨#[]⟩] 85)).alloc (.cells #[.bool true, .bool false, .int .i64 0, .int .i64 kind, .string ⟨#[]⟩] 85) := ⟨_, rfl⟩
  have HB6 : Hid (Blk wz w.heap.size 85 #[.bool false, .bool false, .int .i64 0, .int .i64 0, .string ⟨#[]⟩]) := by show Blk _ _ _ _; rw [hwz]; exact (Blk.new _ _ _).alloc _
  have HB7 : Hid (Blk wz (w.heap.size + 1) 85 #[.bool true, .bool false, .int .i64 0, .int .i64 kind, .string ⟨#[]⟩]) := by
    show Blk _ _ _ _
    have h := Blk.new (w.alloc (.cells #[.bool false, .bool false, .int .i64 0, .int .i64 0, .string ⟨#[]⟩] 85)) 85 #[.bool true, .bool false, .int .i64 0, .int .i64 kind, .string ⟨#[]⟩]
    rw [show (w.alloc (.cells #[.bool false, .bool false, .int .i64 0, .int .i64 0, .string ⟨#[]⟩] 85)).heap.size = w.heap.size + 1 by simp] at h
    rw [hwz]
    exact h
  have HU : Hid (Upd [] w wz) := by show Upd _ _ _; rw [hwz]; exact ((Upd.refl _ _).alloc _).alloc _
  have HWZ := Lib.hid hwz
  clear hwz hv
  go_enter Tryz.func96, Tryz.ntmps96
  go_wp2_with fail
  rw [← HWZ.out]
  refine (rlow_all v n hn.1 (by omega) HV.out _).mono ?_
  rintro e w1 ⟨rfl, hu1⟩
  have b6 := HB6.out.upd hu1 (by simp)
  have b7 := HB7.out.upd hu1 (by simp)
  obtain ⟨B, hB⟩ : ∃ B, B = be n v := ⟨_, rfl⟩
  rw [← hB]
  have c0 := b7.cell 0
  have c1 := b7.cell 1
  have c2 := b7.cell 2
  have c3 := b7.cell 3
  have c4 := b7.cell 4
  have f4 := b7.frozen 4
  have d0 := b6.cell 0
  have d1 := b6.cell 1
  have d2 := b6.cell 2
  have d3 := b6.cell 3
  have d4 := b6.cell 4
  have g0 := b6.frozen 0
  have g1 := b6.frozen 1
  have g2 := b6.frozen 2
  have g3 := b6.frozen 3
  have g4 := b6.frozen 4
  simp only [List.size_toArray, List.length_cons, List.length_nil, List.getElem?_toArray, List.getElem?_cons_zero, List.getElem?_cons_succ] at c0 c1 c2 c3 c4 d0 d1 d2 d3 d4
  have hlt6 := b6.lt
  have hlt7 := b7.lt
  have HE : Hid ((numAv kind v n).agg = .agg #[.bool true, .bool false, .int .i64 0, .int .i64 kind, .string B]) := by show _ = _; rw [hB]; rfl
  have HU1 := Lib.hid (HU.out.trans hu1)
  clear hB hu1 b6 b7
  go_wp2_with fail
  exact bodyPost_ret (v := .agg #[.bool true, .bool false, .int .i64 0, .int .i64 kind, .string B]) (by simp [results, Tryz.results96, go_sem, c0, c1, c2, c3, d0, d1, d2, d3, d4]) rfl ⟨by rw [HE.out], by repeat (with_reducible first | refine Upd.setCell _ ?_ (.inr (by simp)) | exact HU1.out)⟩
theorem rtext_any (kind : Int) (s : ByteArray) (w : World) :
    Calls Tryz.prog 185 #[.int .i64 kind, .string s] w fun e w' => e = .returned (.agg #[.bool true, .bool false, .int .i64 0, .int .i64 kind, .string s]) ∧ Upd [] w w' := by
  go_enter Tryz.func185, Tryz.ntmps185
  go_wp2_with fail
  exact bodyPost_ret (v := .agg #[.bool true, .bool false, .int .i64 0, .int .i64 kind, .string s]) (by simp [results, Tryz.results185, go_sem]) rfl ⟨rfl, by repeat (with_reducible first | refine Upd.setCell _ ?_ (.inr (by simp)) | refine Upd.alloc _ ?_ | exact Upd.refl _ _)⟩
end Go.Proofs.YtglafpdealjlnaaGreat
