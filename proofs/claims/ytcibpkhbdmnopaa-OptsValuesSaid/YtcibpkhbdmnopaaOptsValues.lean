/- The walk of the statement OptsValues. -/
import Derived.Test.YtcibpkhbdmnopaaOptF
import Derived.Test.YtcibpkhbdmnopaaOptsIn
namespace Go.Proofs.Ytcibpkhbdmnopaa
open Go.RowKit Go.ChangeShapes Go.WideShapes
set_option linter.unusedSimpArgs false
set_option linter.unusedVariables false

theorem num_snoc (s : ByteArray) (c : Int) (hc : 0 ≤ c ∧ c ≤ 255) : num (s ++ strOfNums [c]) 0 (s ++ strOfNums [c]).size = num s 0 s.size * 256 + c := by
  have h1 : (s ++ strOfNums [c]).size = s.size + 1 := by rw [ByteArray.size_append, strOfNums_size]; rfl
  rw [h1, num, num_append_l _ _ _ _ (by omega), append_byte_r _ _ _ (by omega)]
  congr 1
  rw [show 0 + s.size - s.size = 0 by omega]
  simp [byte, strOfNums]
  omega

set_option maxHeartbeats 4000000 in
theorem optsValues_any (s : ByteArray) (c : Int) (hc : 0 ≤ c ∧ c ≤ 255) (hs : s.size ≤ 140737488355328) (w : World) :
    Calls Try.prog 3 #[.string s, .int .u8 c] w fun e w' => e = .returned (.bool true) ∧ Upd [] w w' := by
  have HM : Hid (s.size ≤ maxLen) := by show _ ≤ _; simp only [maxLen]; omega
  obtain ⟨S, hS⟩ : ∃ S, S = s ++ strOfNums [c] := ⟨_, rfl⟩
  have hsz : S.size = s.size + 1 := by rw [hS, ByteArray.size_append, strOfNums_size]; rfl
  have HM2 : Hid (S.size ≤ maxLen) := by show _ ≤ _; simp only [maxLen]; omega
  have HN : Hid (num S 0 S.size = num s 0 s.size * 256 + c) := by show _ = _; rw [hS]; exact num_snoc s c hc
  have hcv := str1 Try.underlying24 Try.underlying5 Try.underlying9 (Blk.new w 5 #[.int .u8 c])
  have hadd := run_string_add_sum (P := Try.prog) (w.alloc (.cells #[.int .u8 c] 5)) s (strOfNums [c]) (by rw [strOfNums_size]; simp; omega)
  rw [← hS] at hadd
  have HSZ := Lib.hid hsz
  clear hS hsz
  by_cases t1 : 7 < s.size
  · have H1 : Hid (valueB s = (0, false)) := if_pos t1
    have H2 : Hid (valueB S = (0, false)) := if_pos (by have := HSZ.out; omega)
    have t1' : (7 : Int) < s.size := by omega
    go_enter Try.func3, Try.ntmps3
    go_wp2_with fail
    refine (value_any s HM.out _).mono ?_
    rintro e w1 ⟨rfl, rfl⟩
    rw [H1.out]
    go_wp2_with fail
    refine (value_any S HM2.out _).mono ?_
    rintro e w2 ⟨rfl, rfl⟩
    rw [H2.out]
    go_wp2_with fail
    refine (alive_any _).mono ?_
    rintro e w3 ⟨rfl, hu⟩
    go_wp2_with fail
    go_ret
    exact ⟨rfl, ((Upd.refl [] w).alloc _).trans hu⟩
  · have t1' : ¬ (7 : Int) < s.size := by omega
    obtain ⟨a, ha⟩ : ∃ a, a = num s 0 s.size := ⟨_, rfl⟩
    have H1 : Hid (valueB s = (a, true)) := by show _ = _; rw [ha]; exact if_neg t1
    have hab := num_bd s 0 s.size
    rw [← ha] at hab HN
    have hpow : (256 : Int) ^ s.size ≤ 256 ^ 7 := by
      have h4 : s.size = 0 ∨ s.size = 1 ∨ s.size = 2 ∨ s.size = 3 ∨ s.size = 4 ∨ s.size = 5 ∨ s.size = 6 ∨ s.size = 7 := by omega
      rcases h4 with h4 | h4 | h4 | h4 | h4 | h4 | h4 | h4 <;> rw [h4] <;> decide
    have hab2 : a < 72057594037927936 := by
      have : (256 : Int) ^ 7 = 72057594037927936 := by decide
      omega
    have hab1 := hab.1
    have hab3 : s.size < 7 → a < 281474976710656 := by
      intro h7
      have hp2 : (256 : Int) ^ s.size ≤ 256 ^ 6 := by
        have h4 : s.size = 0 ∨ s.size = 1 ∨ s.size = 2 ∨ s.size = 3 ∨ s.size = 4 ∨ s.size = 5 ∨ s.size = 6 := by omega
        rcases h4 with h4 | h4 | h4 | h4 | h4 | h4 | h4 <;> rw [h4] <;> decide
      have : (256 : Int) ^ 6 = 281474976710656 := by decide
      omega
    clear ha hab hpow
    by_cases t2 : s.size < 7
    · have t2' : (s.size : Int) < 7 := by omega
      have hab4 := hab3 t2
      clear hab3
      obtain ⟨b, hb⟩ : ∃ b, b = num S 0 S.size := ⟨_, rfl⟩
      have H2 : Hid (valueB S = (b, true)) := by show _ = _; rw [hb]; exact if_neg (by have := HSZ.out; omega)
      rw [← hb] at HN
      have q1 : (b == 256 * a + c) = true := by rw [beq_iff_eq, HN.out]; omega
      have hbb : b = a * 256 + c := HN.out
      have HB := Lib.hid hbb
      clear hb HN hbb
      go_enter Try.func3, Try.ntmps3
      go_wp2_with fail
      refine (value_any s HM.out _).mono ?_
      rintro e w1 ⟨rfl, rfl⟩
      rw [H1.out]
      go_wp2_with fail
      refine (value_any S HM2.out _).mono ?_
      rintro e w2 ⟨rfl, rfl⟩
      rw [H2.out]
      go_wp2_with fail
      refine (alive_any _).mono ?_
      rintro e w3 ⟨rfl, hu⟩
      go_wp2_with fail
      go_ret
      exact ⟨rfl, ((Upd.refl [] w).alloc _).trans hu⟩
    · have t2' : decide ((s.size : Int) < 7) = false := by simp; omega
      clear hab3
      have H2 : Hid (valueB S = (0, false)) := if_pos (by have := HSZ.out; omega)
      go_enter Try.func3, Try.ntmps3
      go_wp2_with fail
      refine (value_any s HM.out _).mono ?_
      rintro e w1 ⟨rfl, rfl⟩
      rw [H1.out]
      go_wp2_with fail
      refine (value_any S HM2.out _).mono ?_
      rintro e w2 ⟨rfl, rfl⟩
      rw [H2.out]
      go_wp2_with fail
      refine (alive_any _).mono ?_
      rintro e w3 ⟨rfl, hu⟩
      go_wp2_with fail
      go_ret
      exact ⟨rfl, ((Upd.refl [] w).alloc _).trans hu⟩

theorem optsValues_walk {H : Type} {enc : TypeId × Value → H} {v0 : Value} {d0 d1 : DataW H} {p0 : List MemPlace} {W : World} {base : Nat}
    (h0 : DataW.Trod enc Try.prog W 0 (fun _ => true) true 9 v0 d0 p0) (o0 : Value.okWide Try.prog W .any base 9 v0) (c : Int) (wc : (Lit.int .u8 c).wf = true)
    (sz : (DataW.weightsEach Try.prog [9, 5] [d0, d1]).all (· ≤ reachBytes) = true) :
    Calls Try.prog 3 #[v0, .int .u8 c] W fun e w' => e = .returned (.bool true) ∧ Below W.heap.size W w' := by
  obtain ⟨s, rfl, hs⟩ := str_in h0 o0 (wt_each sz (j := 0) rfl rfl)
  have hc : 0 ≤ c ∧ c ≤ 255 := by
    simp [Lit.wf, IntKind.min, IntKind.max, IntKind.signed, IntKind.bits] at wc
    omega
  exact (optsValues_any s c hc hs W).mono fun e w' ⟨he, hu⟩ => ⟨he, hu.below⟩
end Go.Proofs.Ytcibpkhbdmnopaa
