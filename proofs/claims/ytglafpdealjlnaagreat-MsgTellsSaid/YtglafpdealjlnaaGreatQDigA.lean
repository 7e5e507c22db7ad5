/- The walks of digest's small functions. -/
import Derived.Test.YtglafpdealjlnaaGreatProg
import Derived.Test.YtglafpdealjlnaaGreatQRely
import Derived.Test.YtglafpdealjlnaaGreatQDigP
import Derived.Test.YtglafpdealjlnaaGreatQLib
namespace Go.Proofs.YtglafpdealjlnaaGreat
open Go.RowKit
set_option linter.unusedSimpArgs false
set_option linter.unusedVariables false
set_option maxRecDepth 100000

theorem ofInt_u (x : U) : BitVec.ofInt 32 (x.toNat : Int) = x := by rw [BitVec.ofInt_natCast, BitVec.ofNat_toNat, BitVec.setWidth_eq]
theorem wrap_u (x : U) : IntKind.u32.wrap (x.toNat : Int) = x.toNat := by
  have := x.isLt
  simp [IntKind.wrap, IntKind.bits, IntKind.signed]
  omega
theorem bits_or_u (x y : U) : bits .or .u32 x.toNat y.toNat = ((x ||| y).toNat : Int) := by
  show IntKind.u32.wrap ((BitVec.ofInt 32 _ ||| BitVec.ofInt 32 _).toNat : Nat) = _
  rw [ofInt_u, ofInt_u, wrap_u]
theorem bits_and_u (x y : U) : bits .and .u32 x.toNat y.toNat = ((x &&& y).toNat : Int) := by
  show IntKind.u32.wrap ((BitVec.ofInt 32 _ &&& BitVec.ofInt 32 _).toNat : Nat) = _
  rw [ofInt_u, ofInt_u, wrap_u]
theorem bits_xor_u (x y : U) : bits .xor .u32 x.toNat y.toNat = ((x ^^^ y).toNat : Int) := by
  show IntKind.u32.wrap ((BitVec.ofInt 32 _ ^^^ BitVec.ofInt 32 _).toNat : Nat) = _
  rw [ofInt_u, ofInt_u, wrap_u]
theorem bits_andNot_u (x y : U) : bits .andNot .u32 x.toNat y.toNat = ((x &&& ~~~y).toNat : Int) := by
  show IntKind.u32.wrap ((BitVec.ofInt 32 _ &&& ~~~BitVec.ofInt 32 _).toNat : Nat) = _
  rw [ofInt_u, ofInt_u, wrap_u]
theorem bits_not_u (x : U) : bits .xor .u32 IntKind.u32.max x.toNat = ((~~~x).toNat : Int) := by
  have e : (IntKind.u32.max : Int) = ((BitVec.allOnes 32).toNat : Int) := by decide
  rw [e, bits_xor_u, BitVec.allOnes_xor]
theorem add_u (x y : U) : ((x.toNat : Int) + y.toNat) % 4294967296 = ((x + y).toNat : Int) := by
  rw [BitVec.toNat_add]
  omega
theorem shl_u (x : U) (n : Nat) : (x.toNat : Int) * 2 ^ n % 4294967296 = ((x <<< n).toNat : Int) := by
  rw [BitVec.toNat_shiftLeft, Nat.shiftLeft_eq, Int.natCast_emod, Int.natCast_mul, Int.natCast_pow]
  rfl
theorem shr_u (x : U) (n : Nat) : (x.toNat : Int) / 2 ^ n = ((x >>> n).toNat : Int) := by
  rw [BitVec.toNat_ushiftRight, Nat.shiftRight_eq_div_pow, Int.natCast_ediv, Int.natCast_pow]
  rfl

theorem and31 (n : Nat) (hn : n < 32) : bits .and .i64 (n : Int) 31 = n := by
  have := i64_mask n 5 (by omega)
  rw [show ((2 ^ 5 - 1 : Nat) : Int) = 31 from rfl] at this
  rw [this]
  omega
set_option maxHeartbeats 400000 in
theorem rotate_any (x : U) (n : Nat) (hn : n < 32) (w : World) :
    Calls Tryz.prog 341 #[.int .u32 x.toNat, .int .i64 n] w fun e w' => e = .returned (.int .u32 (rotU x n).toNat) ∧ w = w' := by
  have h1 := and31 n hn
  have hx := x.isLt
  have h2 : IntKind.u64.wrap (n : Int) = n := by
    simp [IntKind.wrap, IntKind.bits, IntKind.signed]
    omega
  have h3 : IntKind.u64.wrap (32 - (n : Int)) = (32 - n : Nat) := by
    simp [IntKind.wrap, IntKind.bits, IntKind.signed]
    omega
  have h4 : min n 32 = n := by omega
  have h5 : min (32 - n) 32 = 32 - n := by omega
  go_enter Tryz.func341, Tryz.ntmps341
  go_wp2_with fail
  go_ret
  refine ⟨?_, rfl⟩
  show Ending.returned (Value.int .u32 _) = _
  rw [shl_u, shr_u, bits_or_u]
  rfl

set_option maxHeartbeats 1000000 in
theorem mix_any (i : Nat) (b c d : U) (hi : i < 64) (w : World) :
    Calls Tryz.prog 340 #[.int .i64 i, .int .u32 b.toNat, .int .u32 c.toNat, .int .u32 d.toNat] w fun e w' => e = .returned (.tuple #[.int .u32 (mixF i b c d).toNat, .int .i64 (mixK i)]) ∧ w = w' := by
  have hb := b.isLt
  have hc := c.isLt
  have hd := d.isLt
  obtain ⟨r, hr⟩ : ∃ r : Int, ((mixF i b c d).toNat : Int) = r := ⟨_, rfl⟩
  obtain ⟨k, hk⟩ : ∃ r : Int, (mixK i : Int) = r := ⟨_, rfl⟩
  have HR := Lib.hid hr
  have HK := Lib.hid hk
  rw [hr, hk]
  clear hr hk
  by_cases t1 : i < 16
  · have q1 : (((i : Int) / 16) == 0) = true := by simp; omega
    go_enter Tryz.func340, Tryz.ntmps340
    go_wp2_with fail
    go_ret2
    refine ⟨?_, rfl⟩
    show Ending.returned (Value.tuple #[Value.int .u32 _, Value.int .i64 _]) = _
    rw [bits_and_u, bits_not_u, bits_and_u, bits_or_u, ← HR.out, ← HK.out, mixF, mixK, if_pos t1, if_pos t1]
    all_goals first | rfl | norm_cast
  have q1 : (((i : Int) / 16) == 0) = false := by simp; omega
  by_cases t2 : i < 32
  · have q2 : (((i : Int) / 16) == 1) = true := by simp; omega
    go_enter Tryz.func340, Tryz.ntmps340
    go_wp2_with fail
    go_ret2
    refine ⟨?_, rfl⟩
    show Ending.returned (Value.tuple #[Value.int .u32 _, Value.int .i64 _]) = _
    rw [bits_and_u, bits_andNot_u, bits_or_u, ← HR.out, ← HK.out, mixF, mixK, if_neg t1, if_pos t2, if_neg t1, if_pos t2]
    all_goals first | rfl | norm_cast
  have q2 : (((i : Int) / 16) == 1) = false := by simp; omega
  by_cases t3 : i < 48
  · have q3 : (((i : Int) / 16) == 2) = true := by simp; omega
    go_enter Tryz.func340, Tryz.ntmps340
    go_wp2_with fail
    go_ret2
    refine ⟨?_, rfl⟩
    show Ending.returned (Value.tuple #[Value.int .u32 _, Value.int .i64 _]) = _
    rw [bits_xor_u, bits_xor_u, ← HR.out, ← HK.out, mixF, mixK, if_neg t1, if_neg t2, if_pos t3, if_neg t1, if_neg t2, if_pos t3]
    all_goals first | rfl | norm_cast
  have q3 : (((i : Int) / 16) == 2) = false := by simp; omega
  go_enter Tryz.func340, Tryz.ntmps340
  go_wp2_with fail
  go_ret2
  refine ⟨?_, rfl⟩
  show Ending.returned (Value.tuple #[Value.int .u32 _, Value.int .i64 _]) = _
  rw [bits_not_u, bits_or_u, bits_xor_u, ← HR.out, ← HK.out, mixF, mixK, if_neg t1, if_neg t2, if_neg t3, if_neg t1, if_neg t2, if_neg t3]
  all_goals first | rfl | norm_cast

set_option maxHeartbeats 4000000 in
theorem turn_any (i : Nat) (hi : i < 64) (w : World) :
    Calls Tryz.prog 343 #[.int .i64 i] w fun e w' => e = .returned (.int .i64 (turnN i)) ∧ Upd [] w w' := by
  have hc : (w.alloc (Obj.cells #[.int .i64 7, .int .i64 12, .int .i64 17, .int .i64 22, .int .i64 5, .int .i64 9, .int .i64 14, .int .i64 20, .int .i64 4, .int .i64 11, .int .i64 16, .int .i64 23, .int .i64 6, .int .i64 10, .int .i64 15, .int .i64 21] 385)).cell? ⟨w.heap.size, i / 16 * 4 + i % 4, none⟩ = some (.int .i64 (turnN i)) := by
    rw [(Blk.new w _ _).cell]
    have hj : i / 16 * 4 + i % 4 < 16 := by omega
    unfold turnN
    generalize i / 16 * 4 + i % 4 = j at hj
    have : ∀ j, j < 16 → (#[.int .i64 7, .int .i64 12, .int .i64 17, .int .i64 22, .int .i64 5, .int .i64 9, .int .i64 14, .int .i64 20, .int .i64 4, .int .i64 11, .int .i64 16, .int .i64 23, .int .i64 6, .int .i64 10, .int .i64 15, .int .i64 21] : Array Value)[j]? = some (.int .i64 (((turnL[j]?).getD 0 : Nat) : Int)) := by
      intro j hj
      match j, hj with
      | 0, _ => rfl
      | 1, _ => rfl
      | 2, _ => rfl
      | 3, _ => rfl
      | 4, _ => rfl
      | 5, _ => rfl
      | 6, _ => rfl
      | 7, _ => rfl
      | 8, _ => rfl
      | 9, _ => rfl
      | 10, _ => rfl
      | 11, _ => rfl
      | 12, _ => rfl
      | 13, _ => rfl
      | 14, _ => rfl
      | 15, _ => rfl
      | n + 16, h => exact absurd h (by omega)
    exact this j hj
  go_enter Tryz.func343, Tryz.ntmps343
  go_wp2_with fail
  go_ret
  exact ⟨rfl, (Upd.refl _ _).alloc _⟩
end Go.Proofs.YtglafpdealjlnaaGreat
