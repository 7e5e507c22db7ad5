/- The channel's methods over one word: 'the channel c lies at block b and owns these blocks'. -/
import Derived.Test.YtdccmlpikjbcaaaGreatCtlN
import Derived.Test.YtdccmlpikjbcaaaGreatCtlT
import Derived.Test.YtdccmlpikjbcaaaGreatCtlS
import Derived.Test.YtdccmlpikjbcaaaGreatCtlK
import Derived.Test.YtdccmlpikjbcaaaGreatCtlQ
namespace Go.Proofs.YtdccmlpikjbcaaaGreat
open Go.RowKit

structure CtlAt (w : World) (b : Nat) (c : C) (own : List Nat) : Prop where
  ok : c.ok
  ex : ∃ vw vf ow of, Blk w b 81 (c.cells vw vf) ∧ Own w 9 1 vw c.waits.length (strs c.waits) ow ∧ Own w 9 1 vf c.flies.length (strs c.flies) of ∧ (∀ k, k ∈ ow → k ∉ of) ∧ own = b :: (ow ++ of)

/-- What is owned now was owned, or is new. -/
def Grew (w : World) (own own' : List Nat) : Prop := ∀ k, k ∈ own' → k ∈ own ∨ w.heap.size ≤ k
theorem Grew.refl (w : World) (own : List Nat) : Grew w own own := fun _ h => .inl h

/-- All that is owned is new. -/
def New (w : World) (own : List Nat) : Prop := ∀ k, k ∈ own → w.heap.size ≤ k
theorem New.grew {w w1 : World} {own own' : List Nat} (h : New w own) (hg : Grew w1 own own') (hs : w.heap.size ≤ w1.heap.size) : New w own' := fun k hk => by
  rcases hg k hk with h1 | h1
  · exact h k h1
  · omega
theorem Upd.new {w w1 w2 : World} {own : List Nat} (h : Upd [] w w1) (hu : Upd own w1 w2) (hn : New w own) : Upd [] w w2 := h.trans' hu fun x hx => .inr (hn x hx)

theorem CtlAt.upd {w w' : World} {b : Nat} {c : C} {own F : List Nat} (h : CtlAt w b c own) (hu : Upd F w w') (hF : ∀ k, k ∈ own → k ∉ F) : CtlAt w' b c own := by
  obtain ⟨ok, vw, vf, ow, of, h1, h2, h3, h4, rfl⟩ := h
  exact ⟨ok, vw, vf, ow, of, h1.upd hu (hF b (by simp)), h2.upd hu (fun k hk => hF k (by simp [hk])), h3.upd hu (fun k hk => hF k (by simp [hk])), h4, rfl⟩
theorem CtlAt.keep {w w' : World} {b : Nat} {c : C} {own : List Nat} (h : CtlAt w b c own) (hu : Upd [] w w') : CtlAt w' b c own := h.upd hu (by simp)
theorem CtlAt.lt {w : World} {b : Nat} {c : C} {own : List Nat} (h : CtlAt w b c own) : ∀ k, k ∈ own → k < w.heap.size := by
  obtain ⟨ok, vw, vf, ow, of, h1, h2, h3, h4, rfl⟩ := h
  intro k hk
  simp only [List.mem_cons, List.mem_append] at hk
  rcases hk with rfl | hk | hk
  · exact h1.lt
  · exact h2.lt k hk
  · exact h3.lt k hk

theorem C.take_ok {c : C} (h : c.ok) (ns nr : Int) (body : ByteArray) : (c.take ns nr body).1.ok := by
  have h2 := C.acked_ok h nr
  unfold C.take
  split
  · exact h
  split
  · exact h2
  obtain ⟨h1, h2, h3, h4, h5, h6, h7, h8, h9, h10, h11, h12, h13, h14, h15, h16, h17, h18, h19, h20, h21, h22, h23, h24, h25, h26⟩ := h2
  split <;> constructor <;> (try simp) <;> first | omega | assumption
theorem C.outLoop_ok : ∀ (n : Nat) (p : C × List Item), p.1.ok → (C.outLoop n p).1.ok
  | 0, _, h => h
  | n + 1, (c, l), h => by
    unfold C.outLoop
    split
    · rename_i hc
      exact C.outLoop_ok n _ (C.fly_ok h hc)
    · exact h
theorem C.out_ok {c : C} (h : c.ok) : c.out.1.ok := by
  unfold C.out
  split
  · exact h
  · have h2 := C.outLoop_ok c.waits.length (c, c.outAgain) h
    obtain ⟨h1, h2, h3, h4, h5, h6, h7, h8, h9, h10, h11, h12, h13, h14, h15, h16, h17, h18, h19, h20, h21, h22, h23, h24, h25, h26⟩ := h2
    constructor <;> (try simp [C.outEnd]) <;> assumption
theorem C.tick_ok {c : C} (h : c.ok) : c.tick.ok := by
  obtain ⟨h1, h2, h3, h4, h5, h6, h7, h8, h9, h10, h11, h12, h13, h14, h15, h16, h17, h18, h19, h20, h21, h22, h23, h24, h25, h26⟩ := h
  have hp : c.wait * 2 ^ (min c.tries 3).toNat ≤ 800 := by
    have h1 : (min c.tries 3).toNat = 0 ∨ (min c.tries 3).toNat = 1 ∨ (min c.tries 3).toNat = 2 ∨ (min c.tries 3).toNat = 3 := by omega
    rcases h1 with h | h | h | h <;> rw [h] <;> omega
  unfold C.tick
  split
  · constructor <;> assumption
  rename_i hnd
  have h27 : c.ticks ≤ 800 := by
    rcases h26 with h | h
    · exact absurd (.inl h) hnd
    · exact h
  (repeat' split) <;> constructor <;> (try simp) <;> first | omega | assumption

section
variable {w : World} {b : Nat} {c : C} {own : List Nat}
theorem new_at {window queue retry wait first : Int} (h : NewOk window queue retry wait first) (w : World) :
    Calls Tryz.prog 5 #[.int .i64 window, .int .i64 queue, .int .i64 retry, .int .i64 wait, .int .i64 first] w fun e w' =>
      e = .returned (.tuple #[.pointer (some ⟨w.heap.size, 0, none⟩), .int .i64 0]) ∧ CtlAt w' w.heap.size (C.new window queue retry wait first) [w.heap.size] ∧ Upd [] w w' ∧ w.heap.size < w'.heap.size := by
  refine (new_ok _ _ _ _ _ h w).mono ?_
  rintro e w' ⟨rfl, rfl⟩
  exact ⟨rfl, ⟨C.new_ok h, _, _, [], [], Blk.new _ _ _, Own.nil _ _ _, Own.nil _ _ _, by simp, rfl⟩, (Upd.refl _ _).alloc _, by simp⟩
theorem dead_at (h : CtlAt w b c own) : Calls Tryz.prog 22 #[.pointer (some ⟨b, 0, none⟩)] w fun e w' => e = .returned (.bool c.dead) ∧ w = w' := by
  obtain ⟨ok, vw, vf, ow, of, h1, h2, h3, h4, rfl⟩ := h
  refine (dead_any b c vw vf w h1).mono ?_
  rintro e w' ⟨rfl, rfl⟩
  exact ⟨by rw [ok.d1]; rfl, rfl⟩
theorem waiting_at (h : CtlAt w b c own) : Calls Tryz.prog 23 #[.pointer (some ⟨b, 0, none⟩)] w fun e w' => e = .returned (.int .i64 c.waits.length) ∧ w = w' := by
  obtain ⟨ok, vw, vf, ow, of, h1, h2, h3, h4, rfl⟩ := h
  obtain ⟨ao, cap, rfl, _, _⟩ := h2.shape
  exact waiting_any b c vf ao _ cap w h1
theorem flying_at (h : CtlAt w b c own) : Calls Tryz.prog 24 #[.pointer (some ⟨b, 0, none⟩)] w fun e w' => e = .returned (.int .i64 c.flies.length) ∧ w = w' := by
  obtain ⟨ok, vw, vf, ow, of, h1, h2, h3, h4, rfl⟩ := h
  obtain ⟨ao, cap, rfl, _, _⟩ := h3.shape
  exact flying_any b c vw ao _ cap w h1
theorem room_at (h : CtlAt w b c own) : Calls Tryz.prog 25 #[.pointer (some ⟨b, 0, none⟩)] w fun e w' => e = .returned (.int .i64 c.room) ∧ w = w' := by
  obtain ⟨ok, vw, vf, ow, of, h1, h2, h3, h4, rfl⟩ := h
  exact room_any b c vw vf w h1
theorem next_at (h : CtlAt w b c own) : Calls Tryz.prog 21 #[.pointer (some ⟨b, 0, none⟩)] w fun e w' => e = .returned (.tuple #[.int .i64 c.sent, .int .i64 c.came]) ∧ Upd [] w w' := by
  obtain ⟨ok, vw, vf, ow, of, h1, h2, h3, h4, rfl⟩ := h
  exact next_any b c vw vf w ⟨ok.s1, ok.s2⟩ ⟨ok.c1, ok.c2⟩ h1
theorem tick_at (h : CtlAt w b c own) : Calls Tryz.prog 14 #[.pointer (some ⟨b, 0, none⟩)] w fun e w' => e = .returned (.tuple #[]) ∧ CtlAt w' b c.tick own ∧ Upd own w w' := by
  obtain ⟨ok, vw, vf, ow, of, h1, h2, h3, h4, rfl⟩ := h
  refine (tick_any b c vw vf of w ok h1 h3).mono ?_
  rintro e w' ⟨rfl, k1, k2⟩
  have e1 : c.tick.waits = c.waits := by unfold C.tick; (repeat' split) <;> rfl
  have e2 : c.tick.flies = c.flies := by unfold C.tick; (repeat' split) <;> rfl
  refine ⟨rfl, ⟨C.tick_ok ok, vw, vf, ow, of, k1, ?_, ?_, h4, rfl⟩, k2.mono (by simp)⟩
  · rw [e1]; exact h2.upd k2 (fun k hk => by simp; rintro rfl; exact h2.ne_blk h1 (by decide) hk)
  · rw [e2]; exact h3.upd k2 (fun k hk => by simp; rintro rfl; exact h3.ne_blk h1 (by decide) hk)
theorem send_at (h : CtlAt w b c own) (body : ByteArray) : Calls Tryz.prog 7 #[.pointer (some ⟨b, 0, none⟩), .string body] w fun e w' =>
    e = .returned (.int .i64 (c.send body).2) ∧ (∃ own', CtlAt w' b (c.send body).1 own' ∧ Grew w own own') ∧ Upd own w w' := by
  obtain ⟨ok, vw, vf, ow, of, h1, h2, h3, h4, rfl⟩ := h
  refine (send_any b c vw vf body ow w ok h1 h2).mono ?_
  rintro e w' ⟨vw', ow', rfl, k1, k2, k3, k4⟩
  have e1 : (c.send body).1.flies = c.flies := by unfold C.send; (repeat' split) <;> rfl
  refine ⟨rfl, ⟨b :: (ow' ++ of), ⟨C.send_ok ok body, vw', vf, ow', of, k1, k2, ?_, ?_, rfl⟩, ?_⟩, k4.mono (by simp; intro x hx; simp [hx])⟩
  · rw [e1]; exact h3.upd k4 (fun k hk => by
      simp only [List.mem_cons, not_or]
      exact ⟨fun e => h3.ne_blk h1 (by decide) (e ▸ hk), fun e => h4 k e hk⟩)
  · intro k hk hk2
    rcases k3 k hk with h | h
    · exact h4 k h hk2
    · have := h3.lt k hk2; omega
  · intro k hk
    simp only [List.mem_cons, List.mem_append] at hk ⊢
    rcases hk with rfl | hk | hk
    · simp
    · rcases k3 k hk with h | h
      · simp [h]
      · exact .inr h
    · simp [hk]
theorem take_at (h : CtlAt w b c own) (ns nr : Int) (body : ByteArray) (hs : body.size ≤ 281474976710656) : Calls Tryz.prog 9 #[.pointer (some ⟨b, 0, none⟩), .agg #[.int .i64 ns, .int .i64 nr, .string body]] w fun e w' =>
    (∃ v ol, e = .returned v ∧ Own w' 9 1 v (c.take ns nr body).2.length (strs (c.take ns nr body).2) ol ∧ (∀ k, k ∈ ol → w.heap.size ≤ k)) ∧ CtlAt w' b (c.take ns nr body).1 own ∧ Upd own w w' := by
  obtain ⟨ok, vw, vf, ow, of, h1, h2, h3, h4, rfl⟩ := h
  refine (take_any b c vw vf ns nr body of w ok h1 h3 hs).mono ?_
  rintro e w' ⟨vf', v, ol, rfl, k1, k2, k3, k4, k5⟩
  have e1 : (c.take ns nr body).1.waits = c.waits := by unfold C.take; (repeat' split) <;> first | rfl | exact C.acked_waits c nr
  refine ⟨⟨v, ol, rfl, k3, k4⟩, ⟨C.take_ok ok ns nr body, vw, vf', ow, of, k1, ?_, k2, h4, rfl⟩, k5.mono (by simp)⟩
  rw [e1]; exact h2.upd k5 (fun k hk => by simp; rintro rfl; exact h2.ne_blk h1 (by decide) hk)
theorem out_at (h : CtlAt w b c own) : Calls Tryz.prog 18 #[.pointer (some ⟨b, 0, none⟩)] w fun e w' =>
    (∃ v oo, e = .returned v ∧ Own w' 53 3 v c.out.2.length (items c.out.2) oo ∧ (∀ k, k ∈ oo → w.heap.size ≤ k)) ∧ (∃ own', CtlAt w' b c.out.1 own' ∧ Grew w own own') ∧ Upd own w w' := by
  obtain ⟨ok, vw, vf, ow, of, h1, h2, h3, h4, rfl⟩ := h
  refine (out_any b c vw vf ow of w ok h1 h2 h3 h4).mono ?_
  rintro e w' ⟨vw', vf', v, ow', of', oo, rfl, k1, k2, k3, k4, k5, k6, k7, k8, k9⟩
  refine ⟨⟨v, oo, rfl, k4, k8⟩, ⟨b :: (ow' ++ of'), ⟨C.out_ok ok, vw', vf', ow', of', k1, k2, k3, k5, rfl⟩, ?_⟩, k9⟩
  intro k hk
  simp only [List.mem_cons, List.mem_append] at hk ⊢
  rcases hk with rfl | hk | hk
  · simp
  · simp [k6 k hk]
  · rcases k7 k hk with h | h
    · simp [h]
    · exact .inr h
end
end Go.Proofs.YtdccmlpikjbcaaaGreat
