/- The walk of the book's name. -/
import Derived.Test.YtglafpdealjlnaaGreatProg
import Derived.Test.YtglafpdealjlnaaGreatQBkP
namespace Go.Proofs.YtglafpdealjlnaaGreat
open Go.RowKit
set_option linter.unusedSimpArgs false
set_option linter.unusedVariables false
set_option maxRecDepth 100000

theorem name_any (i k : Nat) (hi : i ≤ 1000) (hk : k ≤ 1000000000000) (w : World) :
    Calls Tryz.prog 311 #[.int .i64 i, .int .i64 k] w fun e w' => e = .returned (.string (nm i k)) ∧ Upd [] w w' := by
  have hcv := run_convert_bytes_arg (P := Tryz.prog) (w.alloc (.cells ((nmL i k).map (Value.int .u8)).toArray 5)) 151 5 Tryz.underlying151 Tryz.underlying5 w.heap.size 0 6 6 (nmL i k) rfl (fun j hj => by
    rw [Nat.zero_add, (Blk.new _ _ _).cell]
    have hj' : j < (nmL i k).length := by simpa [nmL] using hj
    simp [List.getElem?_eq_getElem hj']) 9 Tryz.underlying9
  simp only [nmL, List.map_cons, List.map_nil] at hcv
  go_enter Tryz.func311, Tryz.ntmps311
  go_wp2_with fail
  go_ret
  exact ⟨rfl, (Upd.refl _ _).alloc _⟩
end Go.Proofs.YtglafpdealjlnaaGreat
