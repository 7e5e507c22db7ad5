/- The walk of avp.Number. -/
import Derived.Test.YtbhohdhndelddaaAvpN
import Derived.Test.YtbhohdhndelddaaOptV
namespace Go.Proofs.Ytbhohdhndelddaa
open Go.RowKit
set_option linter.unusedSimpArgs false
set_option linter.unusedVariables false

def numberAv (l : List Av) (kind : Int) : Int × Bool := if (findAv kind l).2 = false ∨ (findAv kind l).1.size = 0 then (0, false) else valueB (findAv kind l).1
theorem findAv_size (kind : Int) (l : List Av) (m : Nat) (h : ∀ t ∈ l, t.val.size ≤ m) : (findAv kind l).1.size ≤ m := by
  unfold findAv
  cases hf : l.find? (avIs kind) with
  | none => exact Nat.zero_le _
  | some t => exact h t (List.mem_of_find?_eq_some hf)
set_option maxHeartbeats 1000000 in
theorem number_any (l : List Av) (v : Value) (kind : Int) (w : World) (hl : AvsAt w v l) (hs : ∀ t ∈ l, t.val.size ≤ maxLen) :
    Calls Try.prog 14 #[v, .int .i64 kind] w fun e w' => e = .returned (.tuple #[.int .i64 (numberAv l kind).1, .bool (numberAv l kind).2]) ∧ Upd [] w w' := by
  have HL := Lib.hid hl
  have HS := Lib.hid (findAv_size kind l _ hs)
  clear hl hs
  obtain ⟨s, b, hf⟩ : ∃ s b, findAv kind l = (s, b) := ⟨_, _, rfl⟩
  have HQ : Hid (numberAv l kind = if b = false ∨ s.size = 0 then (0, false) else valueB s) := by show _ = _; rw [numberAv, hf]
  rw [HQ.out]
  rw [hf] at HS
  have HF := Lib.hid hf
  clear hf HQ
  cases b
  · rw [if_pos (.inl rfl)]
    go_enter Try.func14, Try.ntmps14
    go_wp2_with fail
    refine (avFind_any l v kind _ HL.out).mono ?_
    rintro e w1 ⟨rfl, hu⟩
    rw [HF.out]
    go_wp2_with fail
    go_ret2
    exact ⟨rfl, hu⟩
  · by_cases t : s.size = 0
    · rw [if_pos (.inr t)]
      have e0 := str_empty_t t
      have T := Lib.hid t
      clear t
      go_enter Try.func14, Try.ntmps14
      go_wp2_with fail
      refine (avFind_any l v kind _ HL.out).mono ?_
      rintro e w1 ⟨rfl, hu⟩
      rw [HF.out]
      go_wp2_with fail
      go_ret2
      exact ⟨rfl, hu⟩
    · rw [if_neg (by simp [t])]
      have e0 := str_empty_f t
      clear t
      go_enter Try.func14, Try.ntmps14
      go_wp2_with fail
      refine (avFind_any l v kind _ HL.out).mono ?_
      rintro e w1 ⟨rfl, hu⟩
      rw [HF.out]
      go_wp2_with fail
      refine (value_any s HS.out _).mono ?_
      rintro e w2 ⟨rfl, rfl⟩
      go_wp2_with fail
      go_ret2
      exact ⟨rfl, hu⟩

end Go.Proofs.Ytbhohdhndelddaa
