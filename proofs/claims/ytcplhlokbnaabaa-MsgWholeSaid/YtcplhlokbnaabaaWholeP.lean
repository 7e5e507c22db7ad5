/- The plain law of MsgWhole. No program in sight but the specification's functions. -/
import Derived.Test.YtcplhlokbnaabaaMsgL
namespace Go.Proofs.Ytcplhlokbnaabaa
open Go.RowKit
set_option maxRecDepth 20000
set_option linter.unusedSimpArgs false
set_option linter.unusedVariables false

def xs (n : Nat) : ByteArray := ⟨(List.replicate n 120).toArray⟩
theorem xs_succ (n : Nat) : xs n ++ ⟨#[120]⟩ = xs (n + 1) := by
  have h : ∀ a b : ByteArray, a.data = b.data → a = b := fun a b h => by cases a; cases b; simp at h; rw [h]
  apply h
  rw [ByteArray.data_append]
  apply Array.ext'
  simp [xs, List.replicate_succ', Array.toList_append]
theorem xs_size (n : Nat) : (xs n).size = n := by simp [xs, ByteArray.size]
def mkAv (k : Int) : Av := ⟨true, false, 0, k, xs (avpLen k).toNat⟩
def dropAt (a : List Av) (d : Nat) : List Av := a.take d ++ a.drop (d + 1)
def wholeB (K : Int) (ns : List Int) : Bool :=
  ns.all (fun k => decide (avpLen k ≠ -2 ∧ avpLen k ≤ 16)) && decide (checkOf (numAv 0 K 2 :: ns.map mkAv) = 0) &&
  (List.range ns.length).all (fun d => decide (checkOf (numAv 0 K 2 :: dropAt (ns.map mkAv) d) = 40)) &&
  decide (checkOf (numAv 0 K 2 :: (ns.map mkAv ++ [⟨false, false, 9, 1, ⟨#[]⟩⟩])) = 0) && decide (checkOf (numAv 0 K 2 :: (ns.map mkAv ++ [⟨true, false, 9, 1, ⟨#[]⟩⟩])) = 40) && decide (ns.length ≤ 4)
def kinds14 : List Int := [1, 2, 3, 4, 6, 7, 8, 9, 10, 11, 12, 14, 15, 16]
theorem whole14 : kinds14.all (fun K => match needsOf K with | some ns => wholeB K ns | none => false) = true := by decide +kernel
theorem needsOf_mem {K : Int} {ns : List Int} (h : needsOf K = some ns) : K ∈ kinds14 := by
  unfold needsOf at h
  simp only [kinds14, List.mem_cons, List.not_mem_nil, or_false]
  repeat' split at h
  all_goals (first | omega | cases h)
theorem whole_ok {K : Int} {ns : List Int} (h : needsOf K = some ns) : wholeB K ns = true := by
  have := List.all_eq_true.1 whole14 K (needsOf_mem h)
  rwa [h] at this
theorem needsOf_known (K : Int) : (needsOf K).isSome = decide (1 ≤ K ∧ K ≤ 16 ∧ K ≠ 5 ∧ K ≠ 13) := by
  cases h : needsOf K with
  | some ns =>
    have := needsOf_mem h
    simp only [kinds14, List.mem_cons, List.not_mem_nil, or_false] at this
    simp
    omega
  | none =>
    unfold needsOf at h
    repeat' split at h
    all_goals (first | (cases h; done) | (simp only [Option.isSome_none]; symm; rw [decide_eq_false_iff_not]; omega))
theorem kindOf_make0 (kind : Int) : kindOf [numAv 0 kind 2] = kind % 65536 := by
  have h := num_be_aux kind 2 2 (Nat.le_refl _)
  simp only [kindOf, numAv, be_size]
  rw [if_neg (by simp), h]
  simp
theorem check_unknown (K : Int) (hK : 0 ≤ K ∧ K ≤ 65535) (h : needsOf K = none) : checkOf [numAv 0 K 2] = 40 := by
  have h1 := kindOf_make0 K
  rw [Int.emod_eq_of_lt hK.1 (by omega)] at h1
  simp only [checkOf, h1, h]
end Go.Proofs.Ytcplhlokbnaabaa
