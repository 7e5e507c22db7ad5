/- Plain: the window is never overrun, and what waits and flies was given. No program in sight. -/
import Derived.Test.YtclodmcdimaccaaCtlB
namespace Go.Proofs.Ytclodmcdimaccaa

/-- The invariant of CtlWindow. -/
structure C.Win (window given : Int) (c : C) : Prop where
  win : c.window = window
  fly : (c.flies.length : Int) ≤ window
  all : (c.waits.length : Int) + c.flies.length ≤ given

theorem C.grow_window (c : C) : c.grow.window = c.window := by unfold C.grow; (repeat' split) <;> rfl
theorem C.pop_window (c : C) : c.pop.window = c.window := by unfold C.pop; rw [C.grow_window]
theorem C.ackLoop_window (nr : Int) : ∀ (n : Nat) (c : C), (C.ackLoop nr n c).window = c.window
  | 0, _ => rfl
  | n + 1, c => by
    unfold C.ackLoop
    split
    · rw [C.ackLoop_window nr n, C.pop_window]
    · rfl
theorem C.ackLoop_flies (nr : Int) : ∀ (n : Nat) (c : C), (C.ackLoop nr n c).flies.length ≤ c.flies.length
  | 0, _ => Nat.le_refl _
  | n + 1, c => by
    unfold C.ackLoop
    split
    · have h := C.ackLoop_flies nr n c.pop
      rw [C.pop_flies, List.length_tail] at h
      omega
    · exact Nat.le_refl _
theorem C.acked_window (c : C) (nr : Int) : (c.acked nr).window = c.window := by
  unfold C.acked; split
  · rfl
  · exact C.ackLoop_window _ _ _
theorem C.acked_flies (c : C) (nr : Int) : (c.acked nr).flies.length ≤ c.flies.length := by
  unfold C.acked; split
  · exact Nat.le_refl _
  · exact C.ackLoop_flies _ _ _
theorem C.take_window (c : C) (ns nr : Int) (body : ByteArray) : (c.take ns nr body).1.window = c.window := by
  unfold C.take
  (repeat' split) <;> first | rfl | exact C.acked_window c nr
theorem C.take_flies (c : C) (ns nr : Int) (body : ByteArray) : (c.take ns nr body).1.flies.length ≤ c.flies.length := by
  unfold C.take
  (repeat' split) <;> first | exact Nat.le_refl _ | exact C.acked_flies c nr
theorem C.take_waits (c : C) (ns nr : Int) (body : ByteArray) : (c.take ns nr body).1.waits = c.waits := by
  unfold C.take
  (repeat' split) <;> first | rfl | exact C.acked_waits c nr
theorem C.outLoop_win {window given : Int} : ∀ (n : Nat) (p : C × List Item), p.1.Win window given → (C.outLoop n p).1.Win window given
  | 0, _, h => h
  | n + 1, (c, l), h => by
    unfold C.outLoop
    split
    · rename_i hc
      apply C.outLoop_win n
      obtain ⟨h1, h2, h3⟩ := h
      refine ⟨h1, ?_, ?_⟩
      · simp only [C.fly, List.length_append, List.length_singleton]; simp only at h1; omega
      · simp only [C.fly, List.length_append, List.length_singleton, List.length_tail]; simp only at h3; omega
    · exact h
theorem C.Win.out {window given : Int} {c : C} (h : c.Win window given) : c.out.1.Win window given := by
  unfold C.out
  split
  · exact h
  · have := C.outLoop_win c.waits.length (c, c.outAgain) h
    exact ⟨this.win, this.fly, this.all⟩
theorem C.Win.take {window given : Int} {c : C} (h : c.Win window given) (ns nr : Int) (body : ByteArray) : (c.take ns nr body).1.Win window given := by
  obtain ⟨h1, h2, h3⟩ := h
  have := C.take_flies c ns nr body
  refine ⟨by rw [C.take_window, h1], by omega, ?_⟩
  rw [C.take_waits]; omega
theorem C.Win.send {window given : Int} {c : C} (h : c.Win window given) (body : ByteArray) : (c.send body).1.Win window (if (c.send body).2 = 0 then given + 1 else given) := by
  obtain ⟨h1, h2, h3⟩ := h
  unfold C.send
  (repeat' split) <;> first | (refine ⟨h1, h2, ?_⟩; first | exact h3 | (simp only [List.length_append, List.length_singleton]; omega)) | (exfalso; omega) | skip
  all_goals simp_all
end Go.Proofs.Ytclodmcdimaccaa
