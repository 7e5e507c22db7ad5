/- The walk of msg.GetLoad at bytes that were laid. -/
import Derived.Test.YteflpekokgdllaaDataB
import Derived.Test.YteflpekokgdllaaRes2
namespace Go.Proofs.Yteflpekokgdllaa
open Go.RowKit
set_option linter.unusedSimpArgs false
set_option linter.unusedVariables false
set_option maxRecDepth 20000

def glA (w0 : World) (cs : Array Value) (vs : List Value) (w : World) : Prop := match vs with
  | [] => Upd [] w0 w
  | [a] => Upd [] w0 w ∧ ∃ g, w0.heap.size ≤ g ∧ a = .pointer (some ⟨g, 0, none⟩) ∧ Blk w g 45 #[.int .i64 0, .int .i64 0, .bool false, .int .i64 0, .int .i64 0, .string ⟨#[]⟩]
  | [a, _] => Upd [] w0 w ∧ ∃ g, w0.heap.size ≤ g ∧ a = .pointer (some ⟨g, 0, none⟩) ∧ Blk w g 45 cs
  | _ => False
theorem glA_keep {w0 w w' : World} {cs : Array Value} {vs : List Value} (h : glA w0 cs vs w) (hu : Upd [] w w') : glA w0 cs vs w' := by
  match vs, h with
  | [], h => exact Upd.trans (show Upd [] w0 w from h) hu
  | [a], ⟨h1, g, h2, h3, h4⟩ => exact ⟨h1.trans hu, g, h2, h3, h4.upd hu (by simp)⟩
  | [a, _], ⟨h1, g, h2, h3, h4⟩ => exact ⟨h1.trans hu, g, h2, h3, h4.upd hu (by simp)⟩
theorem wordsOf_pre : ∀ (l : List Int) (s t : ByteArray), wordsOf l (s ++ t) = s ++ wordsOf l t
  | [], s, t => rfl
  | n :: l, s, t => by rw [wordsOf, wordsOf, ByteArray.append_assoc, wordsOf_pre]
theorem wordsOf_cons (n : Int) (l : List Int) : wordsOf (n :: l) ⟨#[]⟩ = be 2 n ++ wordsOf l ⟨#[]⟩ := by
  rw [wordsOf]
  have h := wordsOf_pre l (be 2 n) ⟨#[]⟩
  have e : be 2 n ++ (⟨#[]⟩ : ByteArray) = be 2 n := ByteArray.append_empty
  have e' : (⟨#[]⟩ : ByteArray) ++ be 2 n = be 2 n := ByteArray.empty_append
  rw [e'] 
  rw [e] at h
  exact h
theorem num_words (a r : ByteArray) : ∀ (l : List Int) (i : Nat) (x : Int), l[i]? = some x → 0 ≤ x ∧ x < 65536 → num (a ++ (wordsOf l ⟨#[]⟩ ++ r)) (a.size + 2 * i) 2 = x
  | [], i, x, h, _ => by simp at h
  | n :: l, 0, x, h, hx => by
    simp at h; subst h
    rw [wordsOf_cons, ByteArray.append_assoc, num_append_r _ _ _ (by omega), show a.size + 2 * 0 - a.size = 0 by omega, num_append_l _ _ _ _ (by rw [be_size]; omega)]
    exact num_be 2 n (by simpa using hx)
  | n :: l, i + 1, x, h, hx => by
    have h2 : l[i]? = some x := by simpa using h
    have := num_words (a ++ be 2 n) r l i x h2 hx
    rw [wordsOf_cons]
    rw [ByteArray.size_append, be_size] at this
    rw [show a.size + 2 * (i + 1) = a.size + 2 + 2 * i by omega, ← this]
    simp only [ByteArray.append_assoc]
end Go.Proofs.Yteflpekokgdllaa
