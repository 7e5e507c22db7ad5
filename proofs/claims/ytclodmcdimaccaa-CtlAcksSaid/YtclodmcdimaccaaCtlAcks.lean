/- The walk of CtlAcks. -/
import Derived.Test.YtclodmcdimaccaaCtlV
import Derived.Test.YtclodmcdimaccaaNum
namespace Go.Proofs.Ytclodmcdimaccaa
open Go.RowKit

theorem bef_self (a : Int) : bef a a = false := by simp [bef]
def aq (first : Int) : C := C.new 4 10 3 5 first
def aqO (first came : Int) (owed : Bool) : C := { C.new 4 10 3 5 first with came := came, owed := owed }
theorem aq_acked (first : Int) (h : 0 ≤ first ∧ first ≤ 65535) : (aq first).acked first = aq first := by
  have h1 : (aq first).first = first := by simp [aq, C.first, C.new]; omega
  unfold C.acked
  split
  · rfl
  · rfl
theorem aq_take0 (first ns : Int) (body : ByteArray) (h : 0 ≤ first ∧ first ≤ 65535) (h1 : 0 ≤ ns ∧ ns ≤ 65535) (h2 : body.size = 0) : (aq first).take ns first body = (aq first, []) := by
  unfold C.take
  rw [if_neg (by simp [aq, C.new]; omega), if_pos h2, aq_acked first h]
theorem aq_take1 (first ns : Int) (body : ByteArray) (h : 0 ≤ first ∧ first ≤ 65535) (h1 : 0 ≤ ns ∧ ns ≤ 65535) (h2 : body.size ≠ 0) (h3 : ns ≠ first) : (aq first).take ns first body = (aqO first first true, []) := by
  unfold C.take
  rw [if_neg (by simp [aq, C.new]; omega), if_neg h2, aq_acked first h, if_pos (by simp [aq, C.new]; exact h3)]
  rfl
theorem aq_take2 (first : Int) (body : ByteArray) (h : 0 ≤ first ∧ first ≤ 65535) (h2 : body.size ≠ 0) : (aq first).take first first body = (aqO first ((first + 1) % 65536) true, [body]) := by
  unfold C.take
  rw [if_neg (by simp [aq, C.new]; omega), if_neg h2, aq_acked first h, if_neg (by simp [aq, C.new])]
  rfl
theorem aqO_out1 (first came : Int) : (aqO first came true).out = (aqO first came false, [⟨first, came, ByteArray.empty⟩]) := rfl
theorem aqO_out0 (first came : Int) : (aqO first came false).out = (aqO first came false, []) := rfl
theorem aq_out (first : Int) : (aq first).out = (aq first, []) := rfl

set_option maxRecDepth 100000 in
set_option maxHeartbeats 2000000 in
theorem ctlAcks_walk (first : Int) (_ : (Lit.int .i64 first).wf = true) (ns : Int) (_ : (Lit.int .i64 ns).wf = true) (body : ByteArray) (_ : body.size ≤ maxLen) (w : World) :
    Calls Try.prog 3 #[.int .i64 first, .int .i64 ns, .string body] w fun e w' => e = .returned (.bool true) ∧ Below w.heap.size w w' := by
  rename_i hw1 hw2 hm
  clear hw1 hw2
  unfold maxLen at hm
  by_cases t1 : 0 ≤ first ∧ first ≤ 65535
  case neg =>
    have hn : ¬ NewOk 4 10 3 5 first := fun h => t1 ⟨h.f1, h.f2⟩
    have HN := Lib.hid hn
    clear hn t1
    go_enter Try.func3, Try.ntmps3
    go_wp2_with fail
    refine (new_bad 4 10 3 5 first HN.out w).mono ?_
    rintro e w1 ⟨rfl, rfl⟩
    go_wp2_with fail
    refine (alive_any _).mono ?_
    rintro e w' ⟨rfl, hu⟩
    go_wp2
    go_ret
    exact ⟨rfl, hu.below⟩
  obtain ⟨f1, f2⟩ := t1
  have NO : Hid (NewOk 4 10 3 5 first) := by constructor <;> omega
  by_cases t2 : ns < 0
  rotate_left
  by_cases t3 : 65535 < ns
  rotate_left
  by_cases t4 : 1000 < body.size
  rotate_left
  rotate_left 1
  all_goals try
    (go_enter Try.func3, Try.ntmps3
     go_wp2_with fail
     refine (new_at NO.out w).mono ?_
     rintro e w1 ⟨rfl, h1, u1, z1⟩
     clear h1
     go_wp2_with fail
     refine (alive_any _).mono ?_
     rintro e w' ⟨rfl, hu⟩
     go_wp2
     go_ret
     exact ⟨rfl, (u1.trans hu).below⟩)
  have t2' : 0 ≤ ns ∧ ns ≤ 65535 := by omega
  have hf : 0 ≤ first ∧ first ≤ 65535 := ⟨f1, f2⟩
  by_cases t5 : body.size = 0
  · have h0' := str_empty_t t5
    have k1 := aq_take0 first ns body hf t2' t5
    have K := Lib.hid (And.intro k1 (aq_out first))
    clear k1 t5
    go_enter Try.func3, Try.ntmps3
    go_wp2_with fail
    refine (new_at NO.out w).mono ?_
    rintro e w1 ⟨rfl, h1, u1, z1⟩
    have h1 : CtlAt w1 w.heap.size (aq first) [w.heap.size] := h1
    go_wp2_with fail
    refine (take_at h1 ns first body (by omega)).mono ?_
    rintro e w2 ⟨⟨v2, o2, rfl, q2, r2⟩, h2, u2⟩
    rw [K.out.1] at q2 h2
    obtain ⟨a2, c2, rfl, _, _⟩ := q2.shape
    go_wp2_with fail
    refine (out_at h2).mono ?_
    rintro e w3 ⟨⟨v3, o3, rfl, q3, r3⟩, ⟨p3, h3, g3⟩, u3⟩
    rw [K.out.2] at q3 h3
    obtain ⟨a3, c3, rfl, _, _⟩ := q3.shape
    go_wp2_with fail
    refine (out_at h3).mono ?_
    rintro e w4 ⟨⟨v4, o4, rfl, q4, r4⟩, ⟨p4, h4, g4⟩, u4⟩
    rw [K.out.2] at q4
    obtain ⟨a4, c4, rfl, _, _⟩ := q4.shape
    have n1 : New w [w.heap.size] := fun k hk => by simp at hk; omega
    have v2 := u1.new u2 n1
    have n3 := n1.grew g3 v2.size
    have U := Lib.hid ((v2.new u3 n1).new u4 n3)
    clear q2 q3 q4 h1 h2 h3 h4 r2 r3 r4 g3 g4 u1 u2 u3 u4 v2 n1 n3
    go_wp2_with fail
    refine (alive_any _).mono ?_
    rintro e w5 ⟨rfl, u5⟩
    go_wp2
    go_ret
    exact ⟨rfl, (U.out.trans u5).below⟩
  · have h0' := str_empty_f t5
    by_cases t6 : ns = first
    · subst t6
      have K := Lib.hid (aq_take2 ns body hf t5)
      have hand := i64_and65535 (ns + 1)
      clear t5
      go_enter Try.func3, Try.ntmps3
      go_wp2_with fail
      refine (new_at NO.out w).mono ?_
      rintro e w1 ⟨rfl, h1, u1, z1⟩
      have h1 : CtlAt w1 w.heap.size (aq ns) [w.heap.size] := h1
      go_wp2_with fail
      refine (take_at h1 ns ns body (by omega)).mono ?_
      rintro e w2 ⟨⟨v2, o2, rfl, q2, r2⟩, h2, u2⟩
      rw [K.out] at q2 h2
      obtain ⟨a2, c2, rfl, _, _⟩ := q2.shape
      go_wp2_with fail
      refine (out_at h2).mono ?_
      rintro e w3 ⟨⟨v3, o3, rfl, q3, r3⟩, ⟨p3, h3, g3⟩, u3⟩
      rw [aqO_out1] at q3 h3
      go_wp2_with fail
      refine (out_at h3).mono ?_
      rintro e w4 ⟨⟨v4, o4, rfl, q4, r4⟩, ⟨p4, h4, g4⟩, u4⟩
      rw [aqO_out0] at q4
      obtain ⟨a4, c4, rfl, _, _⟩ := q4.shape
      have z3 := q3.upd u4 (h3.ne_own q3 (by decide) (by decide))
      have n1 : New w [w.heap.size] := fun k hk => by simp at hk; omega
      have v2 := u1.new u2 n1
      have v3 := v2.new u3 n1
      have n3 := n1.grew g3 v2.size
      have U := Lib.hid (v3.new u4 n3)
      clear q2 q4 h1 h2 h3 h4 r2 r3 r4 g3 g4 u1 u2 u3 u4 v2 v3 n1 n3
      go_wp2_with (go_at_call 10; fail)
      refine (alive_any _).mono ?_
      rintro e w5 ⟨rfl, u5⟩
      have z5 := z3.upd u5 (by simp)
      obtain ⟨g3', f3, k3, rfl, _, l3, b1, b2, b3⟩ := Own.item z5 0 (i := ⟨ns, (ns + 1) % 65536, ByteArray.empty⟩) rfl
      simp at b1 b2 b3
      clear z3 z5 q3
      go_wp2
      all_goals go_ret
      all_goals exact ⟨rfl, (U.out.trans u5).below⟩
    · have K := Lib.hid (aq_take1 first ns body hf t2' t5 t6)
      clear t5
      have t6' : (ns == first) = false := by simpa using t6
      go_enter Try.func3, Try.ntmps3
      go_wp2_with fail
      refine (new_at NO.out w).mono ?_
      rintro e w1 ⟨rfl, h1, u1, z1⟩
      have h1 : CtlAt w1 w.heap.size (aq first) [w.heap.size] := h1
      go_wp2_with fail
      refine (take_at h1 ns first body (by omega)).mono ?_
      rintro e w2 ⟨⟨v2, o2, rfl, q2, r2⟩, h2, u2⟩
      rw [K.out] at q2 h2
      obtain ⟨a2, c2, rfl, _, _⟩ := q2.shape
      go_wp2_with fail
      refine (out_at h2).mono ?_
      rintro e w3 ⟨⟨v3, o3, rfl, q3, r3⟩, ⟨p3, h3, g3⟩, u3⟩
      rw [aqO_out1] at q3 h3
      go_wp2_with fail
      refine (out_at h3).mono ?_
      rintro e w4 ⟨⟨v4, o4, rfl, q4, r4⟩, ⟨p4, h4, g4⟩, u4⟩
      rw [aqO_out0] at q4
      obtain ⟨a4, c4, rfl, _, _⟩ := q4.shape
      have z3 := q3.upd u4 (h3.ne_own q3 (by decide) (by decide))
      have n1 : New w [w.heap.size] := fun k hk => by simp at hk; omega
      have v2 := u1.new u2 n1
      have v3 := v2.new u3 n1
      have n3 := n1.grew g3 v2.size
      have U := Lib.hid (v3.new u4 n3)
      clear q2 q4 h1 h2 h3 h4 r2 r3 r4 g3 g4 u1 u2 u3 u4 v2 v3 n1 n3
      go_wp2_with (go_at_call 10; fail)
      refine (alive_any _).mono ?_
      rintro e w5 ⟨rfl, u5⟩
      have z5 := z3.upd u5 (by simp)
      obtain ⟨g3', f3, k3, rfl, _, l3, b1, b2, b3⟩ := Own.item z5 0 (i := ⟨first, first, ByteArray.empty⟩) rfl
      simp at b1 b2 b3
      clear z3 z5 q3
      go_wp2
      all_goals go_ret
      all_goals exact ⟨rfl, (U.out.trans u5).below⟩
end Go.Proofs.Ytclodmcdimaccaa
