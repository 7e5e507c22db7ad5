/- Plain: the document's own channel holds the same as the program's, laid in another way. No program in sight. -/
import Derived.Test.YtdccmlpikjbcaaaGreatCtlP
import Derived.Test.YtdccmlpikjbcaaaGreatCtlB
namespace Go.Proofs.YtdccmlpikjbcaaaGreat
open Go.RowKit
set_option linter.unusedSimpArgs false
set_option linter.unusedVariables false

/-- What flies, each with its number. -/
def rfl_ : Int → List ByteArray → List Value
  | _, [] => []
  | s, b :: l => .int .i64 s :: .string b :: rfl_ ((s + 1) % 65536) l
def C.rcells (c : C) (vw vf : Value) : Array Value :=
  #[.int .i64 c.window, .int .i64 c.queue, .int .i64 c.retry, .int .i64 c.wait, vw, vf, .int .i64 c.sent, .int .i64 c.came, .int .i64 c.room, .int .i64 c.mark, .int .i64 c.count, .int .i64 c.ticks, .int .i64 c.tries, .bool c.owed, .bool c.again, .bool c.dead]
def C.rflies (c : C) : List Value := rfl_ c.first c.flies
theorem rfl_length (s : Int) (l : List ByteArray) : (rfl_ s l).length = l.length * 2 := by
  induction l generalizing s with
  | nil => rfl
  | cons b l ih => simp only [rfl_, List.length_cons, ih]; omega
theorem rfl_one (s : Int) (l : List ByteArray) : ∀ u ∈ rfl_ s l, u.oneCell' = true := by
  induction l generalizing s with
  | nil => simp [rfl_]
  | cons b l ih =>
    intro u hu
    simp only [rfl_, List.mem_cons] at hu
    rcases hu with rfl | rfl | hu
    · rfl
    · rfl
    · exact ih _ u hu
theorem rfl_snoc (s : Int) (l : List ByteArray) (b : ByteArray) (hs : 0 ≤ s ∧ s < 65536) : rfl_ s (l ++ [b]) = rfl_ s l ++ [.int .i64 ((s + l.length) % 65536), .string b] := by
  induction l generalizing s with
  | nil =>
    have : s % 65536 = s := by omega
    simp [rfl_, this]
  | cons a l ih =>
    rw [List.cons_append, rfl_, ih _ (by omega), rfl_]
    have : ((s + 1) % 65536 + l.length) % 65536 = (s + (l.length + 1 : Nat)) % 65536 := by omega
    rw [List.length_cons, this]
    rfl
theorem rfl_tail (s : Int) (l : List ByteArray) (h : 0 < l.length) : (rfl_ s l).drop 2 = rfl_ ((s + 1) % 65536) l.tail := by
  cases l with
  | nil => simp at h
  | cons b l => rfl
theorem rfl_head (s : Int) (l : List ByteArray) (h : 0 < l.length) : (rfl_ s l)[0]? = some (.int .i64 s) ∧ (rfl_ s l)[1]? = some (.string (hd l)) := by
  cases l with
  | nil => simp at h
  | cons b l => exact ⟨rfl, rfl⟩
theorem C.first_bd (c : C) : 0 ≤ c.first ∧ c.first < 65536 := by unfold C.first; omega
theorem C.grow_sent (c : C) : c.grow.sent = c.sent := by unfold C.grow; (repeat' split) <;> rfl
theorem C.pop_sent (c : C) : c.pop.sent = c.sent := by unfold C.pop; rw [C.grow_sent]
theorem C.pop_first (c : C) (h : 0 < c.flies.length) : c.pop.first = (c.first + 1) % 65536 := by
  unfold C.first
  rw [C.pop_sent, C.pop_flies, List.length_tail]
  omega
theorem C.pop_rflies (c : C) (h : 0 < c.flies.length) : c.pop.rflies = c.rflies.drop 2 := by
  unfold C.rflies
  rw [C.pop_first c h, C.pop_flies, rfl_tail _ _ h]
theorem C.fly_first (c : C) : c.fly.first = c.first := by
  unfold C.first C.fly
  simp only [List.length_append, List.length_singleton]
  omega
theorem C.fly_rflies (c : C) (h : 0 ≤ c.sent ∧ c.sent < 65536) : c.fly.rflies = c.rflies ++ [.int .i64 c.sent, .string (hd c.waits)] := by
  unfold C.rflies
  rw [C.fly_first]
  show rfl_ c.first (c.flies ++ [hd c.waits]) = _
  rw [rfl_snoc _ _ _ c.first_bd]
  congr 4
  unfold C.first
  omega
theorem C.grow_eq {c : C} (h : c.ok) : c.grow = (if c.room < c.mark then { c with room := if c.room + 1 > c.window then c.window else c.room + 1 } else if c.room ≤ c.count + 1 then { c with room := if c.room + 1 > c.window then c.window else c.room + 1, count := 0 } else { c with count := c.count + 1 }) := by
  unfold C.grow
  have e : min (c.room + 1) c.window = if c.room + 1 > c.window then c.window else c.room + 1 := by split <;> omega
  rw [e]
end Go.Proofs.YtdccmlpikjbcaaaGreat
