/- The walks of msg.Make, IsCtl. -/
import Derived.Test.YtcplhlokbnaabaaMsgB
import Derived.OwnWalk
namespace Go.Proofs.Ytcplhlokbnaabaa
open Go.RowKit
set_option maxRecDepth 20000
set_option linter.unusedSimpArgs false
set_option linter.unusedVariables false

theorem info_avp : (Try.prog.info? 27).map (fun i => (i.zero, i.size, i.bytes)) = some (some (.agg #[.bool false, .bool false, .int .i64 0, .int .i64 0, .string ⟨#[]⟩]), 5, 40) := by kernel_rfl
theorem Own.rows_new (w : World) (e : TypeId) {size n : Nat} {cs : List Value} (h : cs.length = n * size) (hm : n ≤ maxLen) : Own (w.alloc (.cells cs.toArray e)) e size (.slice (some ⟨w.heap.size, 0, none⟩) n n) n cs [w.heap.size] :=
  ⟨h, .inr ⟨w.heap.size, 0, n, cs.toArray, rfl, rfl, Blk.new _ _ _, Nat.le_refl _, hm, by simp [h], by simp [← h]⟩⟩
set_option maxHeartbeats 2000000 in
theorem make_any (kind : Int) (l : List Av) (v : Value) (w : World) (hl : AvsAt w v l) (hs : l.length < 1000000) :
    Calls Try.prog 11 #[.int .i64 kind, v] w fun e w' => ∃ u own, e = .returned u ∧ Own w' 27 5 u (1 + l.length) (avCells (numAv 0 kind 2 :: l)) own ∧ (∀ k, k ∈ own → w.heap.size ≤ k) ∧ Upd [] w w' := by
  have RL := Lib.hid hl.rd
  have hnum := fun W => num_ok 0 kind 2 (by omega) W
  simp only [Av.agg, numAv] at hnum
  have HNUM := Lib.hid hnum
  have HS := Lib.hid hs
  have HV := Lib.hid hl
  clear hl hs hnum
  obtain ⟨x, hx⟩ : ∃ x, be 2 kind = x := ⟨_, rfl⟩
  have HX := Lib.hid hx
  rw [hx] at HNUM
  clear hx
  obtain ⟨i0, hi, hz0, hz1, hz2⟩ := info_parts info_avp
  go_enter Try.func11, Try.ntmps11
  go_wp2_with fail
  refine (HNUM.out _).mono ?_
  rintro e w1 ⟨rfl, hu1⟩
  have HU1 := Lib.hid hu1
  clear hu1
  have HO0 : Hid (Own (w1.alloc (.cells #[.bool true, .bool false, .int .i64 0, .int .i64 0, .string x] 27)) 27 5 (.slice (some ⟨w1.heap.size, 0, none⟩) 1 1) 1 [.bool true, .bool false, .int .i64 0, .int .i64 0, .string x] [w1.heap.size]) :=
    Own.rows_new w1 27 (n := 1) (size := 5) (cs := [.bool true, .bool false, .int .i64 0, .int .i64 0, .string x]) rfl (by simp [maxLen])
  have RL1 := Lib.hid (RL.out.upd (HU1.out.alloc (.cells #[.bool true, .bool false, .int .i64 0, .int .i64 0, .string x] 27)))
  go_wp2_with (first
    | (at_builtin; refine wpList_append_Rd _ rfl (.tmp 7) (.tmp 8) 25 rfl 27 i0 _ 5 40 Try.underlying25 hi hz0 hz1 hz2 rfl (by decide) _ 1 _ _ (by simp [Act.eval]) HO0.out v l.length (avCells l) (by simp [Act.eval]) RL1.out (by have := HS.out; simp only [maxLen]; omega) (by have := HS.out; omega) ?_; intro ao1 cap1 w5 own1 ho1 hin1 hu5; have HO1 := Lib.hid ho1; have HIN1 := Lib.hid hin1; have HU5 := Lib.hid hu5; clear ho1 hin1 hu5; generalize Value.slice ao1 (1 + l.length) cap1 = v5 at *))
  go_ret
  refine ⟨_, own1, rfl, ?_, fun k hk => ?_, ?_⟩
  · have h := HO1.out
    have e1 : avCells (numAv 0 kind 2 :: l) = [.bool true, .bool false, .int .i64 0, .int .i64 0, .string x] ++ avCells l := by rw [← HX.out]; rfl
    rw [e1]; exact h
  · have h1 := HU1.out.size
    rcases HIN1.out k hk with h | h
    · simp at h; omega
    · simp at h; omega
  · refine (HU1.out.alloc _).trans' HU5.out (fun y hy => .inr ?_)
    have h1 := HU1.out.size
    simp at hy; omega
end Go.Proofs.Ytcplhlokbnaabaa
