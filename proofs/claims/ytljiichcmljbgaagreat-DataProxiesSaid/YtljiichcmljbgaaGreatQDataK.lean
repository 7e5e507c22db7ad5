/- The walks of slices.IndexFunc, ContainsFunc at values (Avp) with a test that holds nothing, of data.text and Build's test. -/
import Derived.Test.YtljiichcmljbgaaGreatQAvpA
namespace Go.Proofs.YtljiichcmljbgaaGreat
open Go.RowKit
set_option linter.unusedSimpArgs false
set_option linter.unusedVariables false
set_option maxRecDepth 100000

set_option maxHeartbeats 1000000 in
theorem indexAv0_any (f : Nat) (p : Av → Bool) (l : List Av) (v : Value) (w : World) (hl : AvsAt w v l)
    (hcf : ∀ x W, (callFunc f #[x]).run Tryz.prog W = .ok (.enter f #[x]) W)
    (hf : ∀ t ∈ l, ∀ W : World, Upd [] w W → Calls Tryz.prog f #[t.agg] W fun e w' => e = .returned (.bool (p t)) ∧ Upd [] W w') :
    Calls Tryz.prog 123 #[v, .func (.func f) #[] #[]] w fun e w' => e = .returned (.int .i64 (ixa p l 0)) ∧ Upd [] w w' := by
  obtain ⟨ao, cap, rfl, h1, h2, h3⟩ := id hl
  obtain ⟨n, hn⟩ : ∃ n, n = l.length := ⟨_, rfl⟩
  rw [← hn] at h1
  rw [← hn]
  have HL := Lib.hid hl
  have HN := Lib.hid hn
  have HF := Lib.hid hf
  simp only [maxLen] at h2
  clear h3 hl hn hf
  go_enter Tryz.func123, Tryz.ntmps123
  go_wp2
  go_loopg [8] n (fun m s8 wr => ∃ k : Nat, k + m = n ∧ s8 = .int .i64 k ∧ ixa p (l.drop k) k = ixa p l 0 ∧ Upd [] w wr)
  case atStart => exact ⟨0, by omega, rfl, rfl, Upd.refl _ _⟩
  case round =>
    obtain ⟨k, hk, rfl, hi, hu⟩ := hrel
    by_cases t : k < n
    · obtain ⟨x, hx⟩ : ∃ x, l[k]? = some x := by
        have := HN.out
        exact ⟨_, List.getElem?_eq_getElem (by omega)⟩
      have HC := Lib.hid (HF.out x (List.mem_of_getElem? hx))
      obtain ⟨ao', cap', e0, _, _, h3⟩ := HL.out.upd hu
      injection e0 with e0 _ e2
      subst e0 e2
      obtain ⟨q, rfl, c0, c1, c2, c3, c4⟩ := h3 k x hx
      clear h3
      have hd : l.drop k = x :: l.drop (k + 1) := by
        obtain ⟨h5, h6⟩ := List.getElem?_eq_some_iff.1 hx
        rw [List.drop_eq_getElem_cons h5, h6]
      rw [hd, ixa] at hi
      have HI := Lib.hid hi
      have HU := Lib.hid hu
      clear hi hd hu hx
      by_cases t1 : p x = true
      · go_wp2_with fail
        refine (HC.out _ HU.out).mono ?_
        rintro e w' ⟨rfl, hu2⟩
        rw [t1]
        have HU2 := Lib.hid (HU.out.trans hu2)
        clear hu2
        go_wp2
        go_ret
        exact ⟨by rw [← HI.out, if_pos t1]; rfl, HU2.out⟩
      · have t1 : p x = false := by simpa using t1
        go_wp2_with fail
        refine (HC.out _ HU.out).mono ?_
        rintro e w' ⟨rfl, hu2⟩
        rw [t1]
        have HU2 := Lib.hid (HU.out.trans hu2)
        clear hu2
        go_wp2
        go_roundg (n - (k + 1))
        case rel => exact ⟨k + 1, by omega, by go_num, by rw [← HI.out, if_neg (by simp [t1])], HU2.out⟩
        case measure => omega
    · obtain rfl : k = n := by omega
      have hd : l.drop k = [] := by rw [HN.out]; simp
      rw [hd] at hi
      have HI := Lib.hid hi
      clear hi hd
      go_wp2
      go_ret
      exact ⟨by rw [← HI.out]; rfl, hu⟩
set_option maxHeartbeats 400000 in
theorem containsAv0_any (f : Nat) (p : Av → Bool) (l : List Av) (v : Value) (w : World) (hl : AvsAt w v l)
    (hcf : ∀ x W, (callFunc f #[x]).run Tryz.prog W = .ok (.enter f #[x]) W)
    (hf : ∀ t ∈ l, ∀ W : World, Upd [] w W → Calls Tryz.prog f #[t.agg] W fun e w' => e = .returned (.bool (p t)) ∧ Upd [] W w') :
    Calls Tryz.prog 28 #[v, .func (.func f) #[] #[]] w fun e w' => e = .returned (.bool (l.any p)) ∧ Upd [] w w' := by
  have HL := Lib.hid hl
  have HF := Lib.hid hf
  have HCF := Lib.hid hcf
  have H1 := Lib.hid (ixa_any p l 0)
  clear hf hl hcf
  go_enter Tryz.func28, Tryz.ntmps28
  go_wp2_with fail
  refine (indexAv0_any f p l v _ HL.out HCF.out HF.out).mono ?_
  rintro e w' ⟨rfl, hu⟩
  go_wp2
  go_ret
  exact ⟨by rw [← H1.out]; rfl, hu⟩
set_option maxHeartbeats 400000 in
theorem build1_any (t : Av) (w : World) :
    Calls Tryz.prog 29 #[t.agg] w fun e w' => e = .returned (.bool (bigAv t)) ∧ Upd [] w w' := by
  obtain ⟨am, ah, av, ak, s⟩ := t
  have HB : Hid (bigAv ⟨am, ah, av, ak, s⟩ = decide ((1000 : Int) < s.size)) := by
    show decide (1000 < s.size) = _
    by_cases h : 1000 < s.size
    · rw [decide_eq_true h, decide_eq_true (by omega)]
    · rw [decide_eq_false h, decide_eq_false (by omega)]
  rw [HB.out]
  simp only [Av.agg]
  go_enter Tryz.func29, Tryz.ntmps29
  go_wp2_with fail
  go_ret
  exact ⟨rfl, (Upd.refl _ _).alloc _⟩
set_option maxHeartbeats 400000 in
theorem dtext_any (kind : Int) (s : ByteArray) (w : World) :
    Calls Tryz.prog 26 #[.int .i64 kind, .string s] w fun e w' => e = .returned (textAv kind s).agg ∧ Upd [] w w' := by
  have b := Blk.new w 67 #[.bool true, .bool false, .int .i64 0, .int .i64 kind, .string s]
  have u : Upd [] w (w.alloc (.cells #[.bool true, .bool false, .int .i64 0, .int .i64 kind, .string s] 67)) := (Upd.refl _ _).alloc _
  go_enter Tryz.func26, Tryz.ntmps26
  go_wp2_with fail
  have q0 := b.cell 0
  have q1 := b.cell 1
  have q2 := b.cell 2
  have q3 := b.cell 3
  have q4 := b.cell 4
  simp at q0 q1 q2 q3 q4
  exact bodyPost_ret (v := .agg #[.bool true, .bool false, .int .i64 0, .int .i64 kind, .string s]) (by simp [results, Tryz.results26, go_sem, q0, q1, q2, q3, q4]) rfl ⟨rfl, u⟩
end Go.Proofs.YtljiichcmljbgaaGreat
