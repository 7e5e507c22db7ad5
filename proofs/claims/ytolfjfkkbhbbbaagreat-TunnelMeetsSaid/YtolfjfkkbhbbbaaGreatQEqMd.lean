/- Two digests compared, as the program compares arrays: to some truth value, and nothing turns. -/
import Derived.DeepKeys
import Derived.Test.YtolfjfkkbhbbbaaGreatQDigM
namespace Go.Proofs.YtolfjfkkbhbbbaaGreat
open Go.RowKit
set_option linter.unusedSimpArgs false
set_option linter.unusedVariables false
set_option maxRecDepth 20000

theorem byte_lit (n : Nat) (h : n < 256) : Tryz.prog.keyLits 4 5 [.int .u8 (n : Int)] = some [.int .u8 (n : Int)] := by
  unfold Program.keyLits
  rw [Tryz.underlying5]
  dsimp only
  rw [if_pos]
  refine ⟨rfl, ?_⟩
  have h1 : IntKind.u8.min = 0 := by decide
  have h2 : IntKind.u8.max = 255 := by decide
  simp [Lit.wf, h1, h2]
  try omega
theorem row_lits (f : Nat → Nat) (hf : ∀ i, f i < 256) : Tryz.prog.keyLits 5 30 ((List.range 16).map fun i => Value.int .u8 (f i : Int)) = some ((List.range 16).map fun i => Lit.int .u8 (f i : Int)) := by
  unfold Program.keyLits
  rw [Tryz.underlying30]
  dsimp only
  have hc : Tryz.prog.cellsOf 30 = 16 := by kernel_rfl
  have hc1 : Tryz.prog.cellsOf 5 = 1 := by kernel_rfl
  rw [if_pos (by rw [hc]; simp), hc1]
  have h : ((List.range 16).mapM fun i => Tryz.prog.keyLits 4 5 ((((List.range 16).map fun i => Value.int .u8 (f i : Int)).drop (i * 1)).take 1)) = some ((List.range 16).map fun i => [Lit.int .u8 (f i : Int)]) := by
    simp [List.range, List.range.loop, byte_lit _ (hf _)]
  rw [h]
  simp [List.range, List.range.loop]
theorem eq_rows (f g : Nat → Nat) (hf : ∀ i, f i < 256) (hg : ∀ i, g i < 256) (w : World) :
    ∃ r : Bool, (Op.equalIn 10000 30 (.agg ((List.range 16).map fun i => Value.int .u8 (f i : Int)).toArray) (.agg ((List.range 16).map fun i => Value.int .u8 (g i : Int)).toArray)).run Tryz.prog w = .ok r w := by
  obtain ⟨r, h, -⟩ := run_equalIn_deep (P := Tryz.prog) 9990 10 30 (by kernel_rfl) w 5 5 (.agg ((List.range 16).map fun i => Value.int .u8 (f i : Int)).toArray) (.agg ((List.range 16).map fun i => Value.int .u8 (g i : Int)).toArray) _ _
    (by simp [Value.formed, Tryz.underlying30]; kernel_rfl) (by simp [Value.formed, Tryz.underlying30]; kernel_rfl) (row_lits f hf) (row_lits g hg)
  exact ⟨r, h⟩
theorem eq_md5 (x y : ByteArray) (w : World) : ∃ r : Bool, (Op.equalIn 10000 30 (.agg (md5Row x)) (.agg (md5Row y))).run Tryz.prog w = .ok r w := by
  have hf := md5At_lt x
  have hg := md5At_lt y
  unfold md5Row
  generalize md5At x = f at *
  generalize md5At y = g at *
  exact eq_rows f g hf hg w
end Go.Proofs.YtolfjfkkbhbbbaaGreat
