/- The methods of the document's channel over one word: 'its channel c lies at block b and owns these blocks'; what the statement calls besides. -/
import Derived.Test.YtdccmlpikjbcaaaGreatRCtlT
import Derived.Test.YtdccmlpikjbcaaaGreatRCtlS
import Derived.Test.YtdccmlpikjbcaaaGreatRCtlK
import Derived.Test.YtdccmlpikjbcaaaGreatRCtlO
import Derived.Test.YtdccmlpikjbcaaaGreatCtlH
import Derived.Test.YtdccmlpikjbcaaaGreatCtlV
namespace Go.Proofs.YtdccmlpikjbcaaaGreat
open Go.RowKit
set_option linter.unusedSimpArgs false
set_option linter.unusedVariables false
set_option maxRecDepth 100000

structure RAt (w : World) (b : Nat) (c : C) (own : List Nat) : Prop where
  ok : c.ok
  ex : ∃ vw vf ow of, Blk w b 74 (c.rcells vw vf) ∧ Own w 9 1 vw c.waits.length (strs c.waits) ow ∧ Own w 86 2 vf c.flies.length c.rflies of ∧ own = b :: (ow ++ of)
theorem RAt.upd {w w' : World} {b : Nat} {c : C} {own F : List Nat} (h : RAt w b c own) (hu : Upd F w w') (hF : ∀ k, k ∈ own → k ∉ F) : RAt w' b c own := by
  obtain ⟨ok, vw, vf, ow, of, h1, h2, h3, rfl⟩ := h
  exact ⟨ok, vw, vf, ow, of, h1.upd hu (hF b (by simp)), h2.upd hu (fun k hk => hF k (by simp [hk])), h3.upd hu (fun k hk => hF k (by simp [hk])), rfl⟩
theorem RAt.keep {w w' : World} {b : Nat} {c : C} {own : List Nat} (h : RAt w b c own) (hu : Upd [] w w') : RAt w' b c own := h.upd hu (by simp)
theorem RAt.lt {w : World} {b : Nat} {c : C} {own : List Nat} (h : RAt w b c own) : ∀ k, k ∈ own → k < w.heap.size := by
  obtain ⟨ok, vw, vf, ow, of, h1, h2, h3, rfl⟩ := h
  intro k hk
  simp only [List.mem_cons, List.mem_append] at hk
  rcases hk with rfl | hk | hk
  · exact h1.lt
  · exact h2.lt k hk
  · exact h3.lt k hk
theorem RAt.ne_own {w : World} {b : Nat} {c : C} {own : List Nat} (h : RAt w b c own) {e : TypeId} {size n : Nat} {v : Value} {xs : List Value} {oo : List Nat} (ho : Own w e size v n xs oo)
    (h1 : e ≠ 9) (h2 : e ≠ 74) (h3 : e ≠ 86) : ∀ k, k ∈ oo → k ∉ own := by
  obtain ⟨ok, vw, vf, ow, of, k1, k2, k3, rfl⟩ := h
  intro k hk
  simp only [List.mem_cons, List.mem_append, not_or]
  exact ⟨fun e => ho.ne_blk k1 h2 (e ▸ hk), ho.ne_own k2 h1 k hk, ho.ne_own k3 h3 k hk⟩
section
variable {w : World} {b : Nat} {c : C} {own : List Nat}
theorem rnew_at {window queue retry wait first : Int} (h : NewOk window queue retry wait first) (w : World) :
    Calls Tryz.prog 6 #[.int .i64 window, .int .i64 queue, .int .i64 retry, .int .i64 wait, .int .i64 first] w fun e w' =>
      e = .returned (.tuple #[.pointer (some ⟨w.heap.size, 0, none⟩), .int .i64 0]) ∧ RAt w' w.heap.size (C.new window queue retry wait first) [w.heap.size] ∧ Upd [] w w' ∧ w.heap.size < w'.heap.size := by
  refine (rnew_ok _ _ _ _ _ h w).mono ?_
  rintro e w' ⟨rfl, rfl⟩
  exact ⟨rfl, ⟨C.new_ok h, _, _, [], [], Blk.new _ _ _, Own.nil _ _ _, Own.nil _ _ _, rfl⟩, (Upd.refl _ _).alloc _, by simp⟩
theorem rtick_at (h : RAt w b c own) : Calls Tryz.prog 15 #[.pointer (some ⟨b, 0, none⟩)] w fun e w' => e = .returned (.tuple #[]) ∧ RAt w' b c.tick own ∧ Upd own w w' := by
  obtain ⟨ok, vw, vf, ow, of, h1, h2, h3, rfl⟩ := h
  obtain ⟨ao, cap, rfl, _, _⟩ := h3.shape
  refine (rtick_any b c vw ao _ cap w rfl ok h1).mono ?_
  rintro e w' ⟨rfl, k1, k2⟩
  have e1 : c.tick.waits = c.waits := by unfold C.tick; (repeat' split) <;> rfl
  have e2 : c.tick.flies = c.flies := by unfold C.tick; (repeat' split) <;> rfl
  have e3 : c.tick.rflies = c.rflies := by unfold C.rflies C.first; rw [e2]; unfold C.tick; (repeat' split) <;> rfl
  refine ⟨rfl, ⟨C.tick_ok ok, vw, _, ow, of, k1, ?_, ?_, rfl⟩, k2.mono (by simp)⟩
  · rw [e1]; exact h2.upd k2 (fun k hk => by simp; rintro rfl; exact h2.ne_blk h1 (by decide) hk)
  · rw [e2, e3]; exact h3.upd k2 (fun k hk => by simp; rintro rfl; exact h3.ne_blk h1 (by decide) hk)
theorem rwin_at (h : RAt w b c own) (n : Int) : Calls Tryz.prog 17 #[.pointer (some ⟨b, 0, none⟩), .int .i64 n] w fun e w' => e = .returned (.int .i64 (c.win n).2) ∧ RAt w' b (c.win n).1 own ∧ Upd own w w' := by
  obtain ⟨ok, vw, vf, ow, of, h1, h2, h3, rfl⟩ := h
  refine (rwin_any b c vw vf n w h1).mono ?_
  rintro e w' ⟨rfl, k1, k2⟩
  have e1 : (c.win n).1.waits = c.waits := by unfold C.win; split <;> rfl
  have e2 : (c.win n).1.flies = c.flies := by unfold C.win; split <;> rfl
  have e3 : (c.win n).1.rflies = c.rflies := by unfold C.rflies C.first; rw [e2]; unfold C.win; split <;> rfl
  have e4 : (c.win n).1.ok := by
    unfold C.win
    split
    · rename_i h; exact C.setW_ok ok h.1 h.2
    · exact ok
  refine ⟨rfl, ⟨e4, vw, _, ow, of, k1, ?_, ?_, rfl⟩, k2.mono (by simp)⟩
  · rw [e1]; exact h2.upd k2 (fun k hk => by simp; rintro rfl; exact h2.ne_blk h1 (by decide) hk)
  · rw [e2, e3]; exact h3.upd k2 (fun k hk => by simp; rintro rfl; exact h3.ne_blk h1 (by decide) hk)
theorem rsend_at (h : RAt w b c own) (body : ByteArray) : Calls Tryz.prog 8 #[.pointer (some ⟨b, 0, none⟩), .string body] w fun e w' =>
    e = .returned (.int .i64 (c.send body).2) ∧ (∃ own', RAt w' b (c.send body).1 own' ∧ Grew w own own') ∧ Upd own w w' := by
  obtain ⟨ok, vw, vf, ow, of, h1, h2, h3, rfl⟩ := h
  refine (rsend_any b c vw vf body ow w ok h1 h2).mono ?_
  rintro e w' ⟨vw', ow', rfl, k1, k2, k3, k4⟩
  have e1 : (c.send body).1.flies = c.flies := by unfold C.send; (repeat' split) <;> rfl
  have e3 : (c.send body).1.rflies = c.rflies := by unfold C.rflies C.first; rw [e1]; unfold C.send; (repeat' split) <;> rfl
  refine ⟨rfl, ⟨b :: (ow' ++ of), ⟨C.send_ok ok body, vw', vf, ow', of, k1, k2, ?_, rfl⟩, ?_⟩, k4.mono (by simp)⟩
  · rw [e1, e3]; exact h3.upd k4 (fun k hk => by simp; rintro rfl; exact h3.ne_blk h1 (by decide) hk)
  · intro k hk
    simp only [List.mem_cons, List.mem_append] at hk ⊢
    rcases hk with rfl | hk | hk
    · simp
    · rcases k3 k hk with h | h
      · simp [h]
      · exact .inr h
    · simp [hk]
theorem rtake_at (h : RAt w b c own) (ns nr : Int) (body : ByteArray) : Calls Tryz.prog 10 #[.pointer (some ⟨b, 0, none⟩), .agg #[.int .i64 ns, .int .i64 nr, .string body]] w fun e w' =>
    (∃ v ol, e = .returned v ∧ Own w' 9 1 v (c.take ns nr body).2.length (strs (c.take ns nr body).2) ol ∧ (∀ k, k ∈ ol → w.heap.size ≤ k)) ∧ RAt w' b (c.take ns nr body).1 own ∧ Upd own w w' := by
  obtain ⟨ok, vw, vf, ow, of, h1, h2, h3, rfl⟩ := h
  refine (rtake_any b c vw vf ns nr body of w ok h1 h3).mono ?_
  rintro e w' ⟨vf', v, ol, rfl, k1, k2, k3, k4, k5⟩
  have e1 : (c.take ns nr body).1.waits = c.waits := by unfold C.take; (repeat' split) <;> first | rfl | exact C.acked_waits c nr
  refine ⟨⟨v, ol, rfl, k3, k4⟩, ⟨C.take_ok ok ns nr body, vw, vf', ow, of, k1, ?_, k2, rfl⟩, k5.mono (by simp)⟩
  rw [e1]; exact h2.upd k5 (fun k hk => by simp; rintro rfl; exact h2.ne_blk h1 (by decide) hk)
theorem rout_at (h : RAt w b c own) : Calls Tryz.prog 19 #[.pointer (some ⟨b, 0, none⟩)] w fun e w' =>
    (∃ v oo, e = .returned v ∧ Own w' 60 3 v c.out.2.length (items c.out.2) oo ∧ (∀ k, k ∈ oo → w.heap.size ≤ k)) ∧ (∃ own', RAt w' b c.out.1 own' ∧ Grew w own own') ∧ Upd own w w' := by
  obtain ⟨ok, vw, vf, ow, of, h1, h2, h3, rfl⟩ := h
  refine (rout_any b c vw vf ow of w ok h1 h2 h3).mono ?_
  rintro e w' ⟨vw', vf', v, ow', of', ol, rfl, k1, k2, k3, k4, k5, k6, k7, k8⟩
  refine ⟨⟨v, ol, rfl, k4, k7⟩, ⟨b :: (ow' ++ of'), ⟨C.out_ok ok, vw', vf', ow', of', k1, k2, k3, rfl⟩, ?_⟩, k8.mono (by simp)⟩
  intro k hk
  simp only [List.mem_cons, List.mem_append] at hk ⊢
  rcases hk with rfl | hk | hk
  · simp
  · simp [k5 k hk]
  · rcases k6 k hk with h | h
    · simp [h]
    · exact .inr h
end
/-- The program's own Window, at every number. -/
theorem C.setW_waits (c : C) (n : Int) : (c.setW n).waits = c.waits ∧ (c.setW n).flies = c.flies := ⟨rfl, rfl⟩
set_option maxHeartbeats 1000000 in
theorem win_at {w : World} {b : Nat} {c : C} {own : List Nat} (h : CtlAt w b c own) (n : Int) :
    Calls Tryz.prog 16 #[.pointer (some ⟨b, 0, none⟩), .int .i64 n] w fun e w' => e = .returned (.int .i64 (c.win n).2) ∧ CtlAt w' b (c.win n).1 own ∧ Upd own w w' := by
  obtain ⟨ok, vw, vf, ow, of, hb, k2, k3, k4, rfl⟩ := h
  have hm := ok.d1
  have g0 := hb.cell 0
  have g8 := hb.cell 8
  have g9 := hb.cell 9
  have g16 := hb.cell 16
  have f0 := hb.frozen 0
  have f8 := hb.frozen 8
  have f9 := hb.frozen 9
  simp [C.cells] at g0 g8 g9 g16
  rw [hm] at g16
  have HB := Lib.hid hb
  have HK := Lib.hid (And.intro k2 k3)
  have HN := Lib.hid k4
  have HOK := Lib.hid ok
  clear hb k2 k3 k4 ok
  by_cases t : 1 ≤ n ∧ n ≤ 64
  · have HC := Lib.hid (show c.win n = (c.setW n, 0) from if_pos t)
    obtain ⟨h1, h2⟩ := t
    have HOK2 := Lib.hid (C.setW_ok HOK.out h1 h2)
    go_enter Tryz.func16, Tryz.ntmps16
    go_wp2_with fail
    go_ret
    obtain ⟨k2, k3⟩ := HK.out
    rw [HC.out]
    have hu : Upd [b] w ((((w.setCell ⟨b, 0, none⟩ (.int .i64 n)).setCell ⟨b, 9, none⟩ (.int .i64 n)).setCell ⟨b, 8, none⟩ (.int .i64 (min c.room n)))) :=
      (((Upd.refl _ w).setCell _ (.inl (by simp))).setCell _ (.inl (by simp))).setCell _ (.inl (by simp))
    refine ⟨rfl, ⟨HOK2.out, vw, vf, ow, of, (((HB.out.set_ 0 _).set_ 9 _).set_ 8 _).of_eq rfl, ?_, ?_, HN.out, rfl⟩, hu.mono (by simp)⟩
    · exact k2.upd hu (fun k hk => by simp; rintro rfl; exact k2.ne_blk HB.out (by decide) hk)
    · exact k3.upd hu (fun k hk => by simp; rintro rfl; exact k3.ne_blk HB.out (by decide) hk)
  · have HC := Lib.hid (show c.win n = (c, 1) from if_neg t)
    have t2 : n < 1 ∨ 64 < n := by omega
    clear t
    rcases t2 with t | t
    · go_enter Tryz.func16, Tryz.ntmps16
      go_wp2_with fail
      go_ret
      rw [HC.out]
      exact ⟨rfl, ⟨HOK.out, vw, vf, ow, of, HB.out, HK.out.1, HK.out.2, HN.out, rfl⟩, Upd.refl _ _⟩
    · go_enter Tryz.func16, Tryz.ntmps16
      go_wp2_with fail
      go_ret
      rw [HC.out]
      exact ⟨rfl, ⟨HOK.out, vw, vf, ow, of, HB.out, HK.out.1, HK.out.2, HN.out, rfl⟩, Upd.refl _ _⟩
/-- A message, laid anew. -/
theorem plain_any (ns nr : Int) (body : ByteArray) (w : World) :
    Calls Tryz.prog 11 #[.agg #[.int .i64 ns, .int .i64 nr, .string body]] w fun e w' => e = .returned (.agg #[.int .i64 ns, .int .i64 nr, .string body]) ∧ Upd [] w w' := by
  go_enter Tryz.func11, Tryz.ntmps11
  go_wp2_with fail
  exact bodyPost_ret (v := .agg #[.int .i64 ns, .int .i64 nr, .string body]) (by simp [results, Tryz.results11, go_sem]) rfl ⟨rfl, by repeat (first | refine Upd.setCell _ ?_ (.inr (by simp)) | refine Upd.alloc _ ?_ | exact Upd.refl _ _)⟩
end Go.Proofs.YtdccmlpikjbcaaaGreat
