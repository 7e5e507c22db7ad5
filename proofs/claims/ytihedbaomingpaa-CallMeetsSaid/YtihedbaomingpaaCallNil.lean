/- Ends that are none: nil, and not made. -/
import Derived.Test.YtihedbaomingpaaCallTe
import Derived.Test.YtihedbaomingpaaMsgL
import Derived.Test.YtihedbaomingpaaAvsIn
namespace Go.Proofs.Ytihedbaomingpaa
open Go.RowKit
set_option linter.unusedSimpArgs false
set_option linter.unusedVariables false
set_option maxRecDepth 100000

set_option maxHeartbeats 1000000 in
theorem State_nil  (w : World) : Calls Try.prog 13 #[.pointer none] w fun e w' => e = .returned (.int .i64 4) ∧ Upd [] w w' := by
  go_enter Try.func13, Try.ntmps13
  go_wp2_with fail
  refine (none_nil _).mono ?_
  rintro e w1 ⟨rfl, rfl⟩
  go_wp2_with fail
  go_ret
  exact ⟨rfl, Upd.refl _ _⟩
set_option maxHeartbeats 1000000 in
theorem State_zero (b : Nat) (k : K) (hm : k.made = false)  (w : World) (h : CallAt w b k) : Calls Try.prog 13 #[.pointer (some ⟨b, 0, none⟩)] w fun e w' => e = .returned (.int .i64 4) ∧ Upd [] w w' := by
  go_enter Try.func13, Try.ntmps13
  go_wp2_with fail
  refine (none_any b k _ h).mono ?_
  rintro e w1 ⟨rfl, rfl⟩
  rw [hm]
  simp only [Bool.not_false]
  go_wp2_with fail
  go_ret
  exact ⟨rfl, Upd.refl _ _⟩
set_option maxHeartbeats 1000000 in
theorem Ids_nil  (w : World) : Calls Try.prog 24 #[.pointer none] w fun e w' => e = .returned (.tuple #[.int .i64 0, .int .i64 0]) ∧ Upd [] w w' := by
  go_enter Try.func24, Try.ntmps24
  go_wp2_with fail
  refine (none_nil _).mono ?_
  rintro e w1 ⟨rfl, rfl⟩
  go_wp2_with fail
  go_ret2
  exact ⟨rfl, Upd.refl _ _⟩
set_option maxHeartbeats 1000000 in
theorem Ids_zero (b : Nat) (k : K) (hm : k.made = false)  (w : World) (h : CallAt w b k) : Calls Try.prog 24 #[.pointer (some ⟨b, 0, none⟩)] w fun e w' => e = .returned (.tuple #[.int .i64 0, .int .i64 0]) ∧ Upd [] w w' := by
  go_enter Try.func24, Try.ntmps24
  go_wp2_with fail
  refine (none_any b k _ h).mono ?_
  rintro e w1 ⟨rfl, rfl⟩
  rw [hm]
  simp only [Bool.not_false]
  go_wp2_with fail
  go_ret2
  exact ⟨rfl, Upd.refl _ _⟩
set_option maxHeartbeats 1000000 in
theorem Heard_nil  (w : World) : Calls Try.prog 21 #[.pointer none] w fun e w' => e = .returned (.tuple #[.int .i64 0, .int .i64 0]) ∧ Upd [] w w' := by
  go_enter Try.func21, Try.ntmps21
  go_wp2_with fail
  refine (none_nil _).mono ?_
  rintro e w1 ⟨rfl, rfl⟩
  go_wp2_with fail
  go_ret2
  exact ⟨rfl, Upd.refl _ _⟩
set_option maxHeartbeats 1000000 in
theorem Heard_zero (b : Nat) (k : K) (hm : k.made = false)  (w : World) (h : CallAt w b k) : Calls Try.prog 21 #[.pointer (some ⟨b, 0, none⟩)] w fun e w' => e = .returned (.tuple #[.int .i64 0, .int .i64 0]) ∧ Upd [] w w' := by
  go_enter Try.func21, Try.ntmps21
  go_wp2_with fail
  refine (none_any b k _ h).mono ?_
  rintro e w1 ⟨rfl, rfl⟩
  rw [hm]
  simp only [Bool.not_false]
  go_wp2_with fail
  go_ret2
  exact ⟨rfl, Upd.refl _ _⟩
set_option maxHeartbeats 1000000 in
theorem Open_nil  (w : World) : Calls Try.prog 10 #[.pointer none] w fun e w' => e = .returned (.slice none 0 0) ∧ Upd [] w w' := by
  go_enter Try.func10, Try.ntmps10
  go_wp2_with fail
  refine (none_nil _).mono ?_
  rintro e w1 ⟨rfl, rfl⟩
  go_wp2_with fail
  go_ret
  exact ⟨rfl, Upd.refl _ _⟩
set_option maxHeartbeats 1000000 in
theorem Open_zero (b : Nat) (k : K) (hm : k.made = false)  (w : World) (h : CallAt w b k) : Calls Try.prog 10 #[.pointer (some ⟨b, 0, none⟩)] w fun e w' => e = .returned (.slice none 0 0) ∧ Upd [] w w' := by
  go_enter Try.func10, Try.ntmps10
  go_wp2_with fail
  refine (none_any b k _ h).mono ?_
  rintro e w1 ⟨rfl, rfl⟩
  rw [hm]
  simp only [Bool.not_false]
  go_wp2_with fail
  go_ret
  exact ⟨rfl, Upd.refl _ _⟩
set_option maxHeartbeats 1000000 in
theorem Got_nil  (w : World) : Calls Try.prog 25 #[.pointer none] w fun e w' => e = .returned (.slice none 0 0) ∧ Upd [] w w' := by
  go_enter Try.func25, Try.ntmps25
  go_wp2_with fail
  refine (none_nil _).mono ?_
  rintro e w1 ⟨rfl, rfl⟩
  go_wp2_with fail
  go_ret
  exact ⟨rfl, Upd.refl _ _⟩
set_option maxHeartbeats 1000000 in
theorem Got_zero (b : Nat) (k : K) (hm : k.made = false)  (w : World) (h : CallAt w b k) : Calls Try.prog 25 #[.pointer (some ⟨b, 0, none⟩)] w fun e w' => e = .returned (.slice none 0 0) ∧ Upd [] w w' := by
  go_enter Try.func25, Try.ntmps25
  go_wp2_with fail
  refine (none_any b k _ h).mono ?_
  rintro e w1 ⟨rfl, rfl⟩
  rw [hm]
  simp only [Bool.not_false]
  go_wp2_with fail
  go_ret
  exact ⟨rfl, Upd.refl _ _⟩
set_option maxHeartbeats 1000000 in
theorem Close_nil (code : Int) (w : World) : Calls Try.prog 17 #[.pointer none, .int .i64 code] w fun e w' => e = .returned (.slice none 0 0) ∧ Upd [] w w' := by
  go_enter Try.func17, Try.ntmps17
  go_wp2_with fail
  refine (none_nil _).mono ?_
  rintro e w1 ⟨rfl, rfl⟩
  go_wp2_with fail
  go_ret
  exact ⟨rfl, Upd.refl _ _⟩
set_option maxHeartbeats 1000000 in
theorem Close_zero (b : Nat) (k : K) (hm : k.made = false) (code : Int) (w : World) (h : CallAt w b k) : Calls Try.prog 17 #[.pointer (some ⟨b, 0, none⟩), .int .i64 code] w fun e w' => e = .returned (.slice none 0 0) ∧ Upd [] w w' := by
  go_enter Try.func17, Try.ntmps17
  go_wp2_with fail
  refine (none_any b k _ h).mono ?_
  rintro e w1 ⟨rfl, rfl⟩
  rw [hm]
  simp only [Bool.not_false]
  go_wp2_with fail
  go_ret
  exact ⟨rfl, Upd.refl _ _⟩
set_option maxHeartbeats 1000000 in
theorem Take_nil (t s ns nr : Int) (ao : Option Addr) (n cap : Nat) (w : World) : Calls Try.prog 11 #[.pointer none, .agg #[.int .i64 t, .int .i64 s, .int .i64 ns, .int .i64 nr, .slice ao n cap]] w fun e w' => e = .returned (.slice none 0 0) ∧ Upd [] w w' := by
  go_enter Try.func11, Try.ntmps11
  go_wp2_with fail
  refine (none_nil _).mono ?_
  rintro e w1 ⟨rfl, rfl⟩
  go_wp2_with fail
  go_ret
  exact ⟨rfl, (Upd.refl _ _).alloc _⟩
set_option maxHeartbeats 1000000 in
theorem Take_zero (b : Nat) (k : K) (hm : k.made = false) (t s ns nr : Int) (ao : Option Addr) (n cap : Nat) (w : World) (h : CallAt w b k) : Calls Try.prog 11 #[.pointer (some ⟨b, 0, none⟩), .agg #[.int .i64 t, .int .i64 s, .int .i64 ns, .int .i64 nr, .slice ao n cap]] w fun e w' => e = .returned (.slice none 0 0) ∧ Upd [] w w' := by
  go_enter Try.func11, Try.ntmps11
  go_wp2_with fail
  refine (none_any b k _ (h.upd ((Upd.refl [] _).alloc _))).mono ?_
  rintro e w1 ⟨rfl, rfl⟩
  rw [hm]
  simp only [Bool.not_false]
  go_wp2_with fail
  go_ret
  exact ⟨rfl, (Upd.refl _ _).alloc _⟩
set_option maxHeartbeats 1000000 in
theorem With_nil (ao : Option Addr) (n cap : Nat) (w : World) : Calls Try.prog 23 #[.pointer none, .slice ao n cap] w fun e w' => e = .returned (.tuple #[]) ∧ Upd [] w w' := by
  go_enter Try.func23, Try.ntmps23
  go_wp2_with fail
  refine (none_nil _).mono ?_
  rintro e w1 ⟨rfl, rfl⟩
  go_wp2_with fail
  go_end0
  exact ⟨rfl, Upd.refl _ _⟩
set_option maxHeartbeats 1000000 in
theorem With_zero (b : Nat) (k : K) (hm : k.made = false) (ao : Option Addr) (n cap : Nat) (w : World) (h : CallAt w b k) : Calls Try.prog 23 #[.pointer (some ⟨b, 0, none⟩), .slice ao n cap] w fun e w' => e = .returned (.tuple #[]) ∧ Upd [] w w' := by
  go_enter Try.func23, Try.ntmps23
  go_wp2_with fail
  refine (none_any b k _ h).mono ?_
  rintro e w1 ⟨rfl, rfl⟩
  rw [hm]
  simp only [Bool.not_false]
  go_wp2_with fail
  go_end0
  exact ⟨rfl, Upd.refl _ _⟩
set_option maxHeartbeats 1000000 in
theorem tell_nil (kind value : Int) (text : ByteArray) (w : World) : Calls Try.prog 40 #[.pointer none, .int .i64 kind, .int .i64 value, .string text] w fun e w' => e = .returned (.slice none 0 0) ∧ Upd [] w w' := by
  go_enter Try.func40, Try.ntmps40
  go_wp2_with fail
  refine (none_nil _).mono ?_
  rintro e w1 ⟨rfl, rfl⟩
  go_wp2_with fail
  go_ret
  exact ⟨rfl, Upd.refl _ _⟩
set_option maxHeartbeats 1000000 in
theorem tell_zero (b : Nat) (k : K) (hm : k.made = false) (kind value : Int) (text : ByteArray) (w : World) (h : CallAt w b k) : Calls Try.prog 40 #[.pointer (some ⟨b, 0, none⟩), .int .i64 kind, .int .i64 value, .string text] w fun e w' => e = .returned (.slice none 0 0) ∧ Upd [] w w' := by
  go_enter Try.func40, Try.ntmps40
  go_wp2_with fail
  refine (none_any b k _ h).mono ?_
  rintro e w1 ⟨rfl, rfl⟩
  rw [hm]
  simp only [Bool.not_false]
  go_wp2_with fail
  go_ret
  exact ⟨rfl, Upd.refl _ _⟩
set_option maxHeartbeats 1000000 in
theorem Errors_nil (text : ByteArray) (w : World) : Calls Try.prog 19 #[.pointer none, .string text] w fun e w' => e = .returned (.slice none 0 0) ∧ Upd [] w w' := by
  go_enter Try.func19, Try.ntmps19
  go_wp2_with fail
  refine (tell_nil 15 34 text _).mono ?_
  rintro e w1 ⟨rfl, u1⟩
  go_wp2_with fail
  go_ret
  exact ⟨rfl, u1⟩
set_option maxHeartbeats 1000000 in
theorem Errors_zero (b : Nat) (k : K) (hm : k.made = false) (text : ByteArray) (w : World) (h : CallAt w b k) : Calls Try.prog 19 #[.pointer (some ⟨b, 0, none⟩), .string text] w fun e w' => e = .returned (.slice none 0 0) ∧ Upd [] w w' := by
  go_enter Try.func19, Try.ntmps19
  go_wp2_with fail
  refine (tell_zero b k hm 15 34 text _ h).mono ?_
  rintro e w1 ⟨rfl, u1⟩
  go_wp2_with fail
  go_ret
  exact ⟨rfl, u1⟩
set_option maxHeartbeats 1000000 in
theorem Map_nil (text : ByteArray) (w : World) : Calls Try.prog 20 #[.pointer none, .string text] w fun e w' => e = .returned (.slice none 0 0) ∧ Upd [] w w' := by
  go_enter Try.func20, Try.ntmps20
  go_wp2_with fail
  refine (tell_nil 16 35 text _).mono ?_
  rintro e w1 ⟨rfl, u1⟩
  go_wp2_with fail
  go_ret
  exact ⟨rfl, u1⟩
set_option maxHeartbeats 1000000 in
theorem Map_zero (b : Nat) (k : K) (hm : k.made = false) (text : ByteArray) (w : World) (h : CallAt w b k) : Calls Try.prog 20 #[.pointer (some ⟨b, 0, none⟩), .string text] w fun e w' => e = .returned (.slice none 0 0) ∧ Upd [] w w' := by
  go_enter Try.func20, Try.ntmps20
  go_wp2_with fail
  refine (tell_zero b k hm 16 35 text _ h).mono ?_
  rintro e w1 ⟨rfl, u1⟩
  go_wp2_with fail
  go_ret
  exact ⟨rfl, u1⟩
end Go.Proofs.Ytihedbaomingpaa
