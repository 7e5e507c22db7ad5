/- Plain: how many values are got. -/
import Derived.Test.YtglafpdealjlnaaGreatQAvpH
namespace Go.Proofs.YtglafpdealjlnaaGreat
open Go.RowKit
set_option linter.unusedSimpArgs false
set_option linter.unusedVariables false

theorem getFromA_len (secret : ByteArray) : ∀ (f : Nat) (b : ByteArray) (out : List Av), out.length ≤ 40 → (getFromA secret f b out).1.length ≤ 40
  | 0, _, out, h => h
  | f + 1, b, out, h => by
    rw [getFromA]
    by_cases t : b.size = 0
    · rw [if_pos t]; exact h
    rw [if_neg t]
    by_cases t2 : (oneA b secret out).2.2 ≠ 0
    · rw [if_pos t2]; exact Nat.zero_le _
    rw [if_neg t2]
    refine getFromA_len secret f _ _ ?_
    have := (oneA_ok (Classical.not_not.1 t2)).2.2.1
    rw [List.length_append]
    simp
    omega
theorem getA_len (b secret : ByteArray) : (getA b secret).1.length ≤ 40 := getFromA_len _ _ _ _ (by simp)
end Go.Proofs.YtglafpdealjlnaaGreat
