/- The walks of the channel's readers, of New, and of what a nil channel answers. -/
import Derived.Test.YtdccmlpikjbcaaaGreatCtlA
namespace Go.Proofs.YtdccmlpikjbcaaaGreat
open Go.RowKit
set_option maxRecDepth 100000

set_option maxHeartbeats 400000 in
theorem waiting_any (b : Nat) (c : C) (vf : Value) (ao : Option Addr) (n cap : Nat) (w : World) (hb : Blk w b 81 (c.cells (.slice ao n cap) vf)) :
    Calls Tryz.prog 23 #[.pointer (some ⟨b, 0, none⟩)] w fun e w' => e = .returned (.int .i64 n) ∧ w = w' := by
  have h6 := hb.cell 6
  simp [C.cells] at h6
  clear hb
  go_enter Tryz.func23, Tryz.ntmps23
  go_wp2
  go_ret
  exact ⟨rfl, rfl⟩

set_option maxHeartbeats 400000 in
theorem flying_any (b : Nat) (c : C) (vw : Value) (ao : Option Addr) (n cap : Nat) (w : World) (hb : Blk w b 81 (c.cells vw (.slice ao n cap))) :
    Calls Tryz.prog 24 #[.pointer (some ⟨b, 0, none⟩)] w fun e w' => e = .returned (.int .i64 n) ∧ w = w' := by
  have h7 := hb.cell 7
  simp [C.cells] at h7
  clear hb
  go_enter Tryz.func24, Tryz.ntmps24
  go_wp2
  go_ret
  exact ⟨rfl, rfl⟩
set_option maxHeartbeats 400000 in
theorem room_any (b : Nat) (c : C) (vw vf : Value) (w : World) (hb : Blk w b 81 (c.cells vw vf)) :
    Calls Tryz.prog 25 #[.pointer (some ⟨b, 0, none⟩)] w fun e w' => e = .returned (.int .i64 c.room) ∧ w = w' := by
  have h8 := hb.cell 8
  simp [C.cells] at h8
  clear hb
  go_enter Tryz.func25, Tryz.ntmps25
  go_wp2
  go_ret
  exact ⟨rfl, rfl⟩
set_option maxHeartbeats 400000 in
theorem next_any (b : Nat) (c : C) (vw vf : Value) (w : World) (h1 : 0 ≤ c.sent ∧ c.sent < 65536) (h2 : 0 ≤ c.came ∧ c.came < 65536) (hb : Blk w b 81 (c.cells vw vf)) :
    Calls Tryz.prog 21 #[.pointer (some ⟨b, 0, none⟩)] w fun e w' => e = .returned (.tuple #[.int .i64 c.sent, .int .i64 c.came]) ∧ Upd [] w w' := by
  have h4 := hb.cell 4
  have h5 := hb.cell 5
  simp [C.cells] at h4 h5
  clear hb
  go_enter Tryz.func21, Tryz.ntmps21
  go_wp2
  go_quiet (fail)
  go_wp2
  go_ret2
  exact ⟨rfl, (Upd.refl _ _).drewN _⟩
set_option maxHeartbeats 400000 in
theorem waiting_nil (w : World) : Calls Tryz.prog 23 #[.pointer none] w fun e w' => e = .returned (.int .i64 0) ∧ w = w' := by
  go_enter Tryz.func23, Tryz.ntmps23
  go_wp2
  go_ret
  exact ⟨rfl, rfl⟩
set_option maxHeartbeats 400000 in
theorem room_nil (w : World) : Calls Tryz.prog 25 #[.pointer none] w fun e w' => e = .returned (.int .i64 0) ∧ w = w' := by
  go_enter Tryz.func25, Tryz.ntmps25
  go_wp2
  go_ret
  exact ⟨rfl, rfl⟩
set_option maxHeartbeats 400000 in
theorem next_nil (w : World) : Calls Tryz.prog 21 #[.pointer none] w fun e w' => e = .returned (.tuple #[.int .i64 0, .int .i64 0]) ∧ w = w' := by
  go_enter Tryz.func21, Tryz.ntmps21
  go_wp2
  go_ret2
  exact ⟨rfl, rfl⟩
set_option maxHeartbeats 400000 in
theorem newIn_any (n a b : Int) (w : World) :
    Calls Tryz.prog 28 #[.int .i64 n, .int .i64 a, .int .i64 b] w fun e w' => e = .returned (.bool (decide (a ≤ n) && decide (n ≤ b))) ∧ w = w' := by
  go_enter Tryz.func28, Tryz.ntmps28
  go_wp2
  all_goals
    go_ret
    refine ⟨?_, rfl⟩
    simp_all
  all_goals omega

structure NewOk (window queue retry wait first : Int) : Prop where
  w1 : 1 ≤ window
  w2 : window ≤ 64
  q1 : 1 ≤ queue
  q2 : queue ≤ 40
  t1 : 0 ≤ retry
  t2 : retry ≤ 10
  a1 : 1 ≤ wait
  a2 : wait ≤ 100
  f1 : 0 ≤ first
  f2 : first ≤ 65535

def C.new (window queue retry wait first : Int) : C :=
  ⟨window, queue, retry, wait, first, first, [], [], 1, window, 0, 0, 0, false, false, false, true⟩

theorem C.new_ok {window queue retry wait first : Int} (h : NewOk window queue retry wait first) : (C.new window queue retry wait first).ok := by
  obtain ⟨h1, h2, h3, h4, h5, h6, h7, h8, h9, h10⟩ := h
  constructor <;> (try simp [C.new]) <;> omega

set_option maxHeartbeats 1000000 in
theorem new_ok (window queue retry wait first : Int) (h : NewOk window queue retry wait first) (w : World) :
    Calls Tryz.prog 5 #[.int .i64 window, .int .i64 queue, .int .i64 retry, .int .i64 wait, .int .i64 first] w fun e w' =>
      e = .returned (.tuple #[.pointer (some ⟨w.heap.size, 0, none⟩), .int .i64 0]) ∧ w' = w.alloc (.cells ((C.new window queue retry wait first).cells (.slice none 0 0) (.slice none 0 0)) 81) := by
  obtain ⟨h1, h2, h3, h4, h5, h6, h7, h8, h9, h10⟩ := h
  go_enter Tryz.func5, Tryz.ntmps5
  go_wp2
  go_ret2
  refine ⟨rfl, ?_⟩
  simp [C.cells, C.new]

set_option maxHeartbeats 1000000 in
theorem new_bad (window queue retry wait first : Int) (h : ¬ NewOk window queue retry wait first) (w : World) :
    Calls Tryz.prog 5 #[.int .i64 window, .int .i64 queue, .int .i64 retry, .int .i64 wait, .int .i64 first] w fun e w' =>
      e = .returned (.tuple #[.pointer none, .int .i64 1]) ∧ w = w' := by
  have H := Lib.hid h
  clear h
  go_enter Tryz.func5, Tryz.ntmps5
  go_wp2_with (go_at_call 28; refine (newIn_any _ _ _ _).mono ?_; rintro e w' ⟨rfl, rfl⟩)
  all_goals go_ret2
  all_goals first
    | exact ⟨rfl, rfl⟩
    | (exfalso
       refine H.out ?_
       simp only [Bool.not_eq_false', decide_eq_true_eq] at *
       constructor <;> omega)
end Go.Proofs.YtdccmlpikjbcaaaGreat
