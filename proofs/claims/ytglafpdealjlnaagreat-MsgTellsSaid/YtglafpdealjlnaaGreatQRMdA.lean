/- The walk of the document's own turn (chapter 2). -/
import Derived.Test.YtglafpdealjlnaaGreatProg
import Derived.WalkKit
import Derived.Deep.LoopGhost
import Derived.Test.YtglafpdealjlnaaGreatQRMdP
import Derived.Test.YtglafpdealjlnaaGreatQLib
namespace Go.Proofs.YtglafpdealjlnaaGreat
open Go.RowKit
set_option linter.unusedSimpArgs false
set_option linter.unusedVariables false
set_option maxRecDepth 100000

set_option maxHeartbeats 1000000 in
theorem rturn_any (x : U) (n : Nat) (hn : n < 32) (w : World) :
    Calls Tryz.prog 330 #[.int .i64 x.toNat, .int .i64 n] w fun e w' => e = .returned (.int .i64 (rotU x n).toNat) ∧ w = w' := by
  go_enter Tryz.func330, Tryz.ntmps330
  go_wp2_with fail
  go_loopg [0, 5] n (fun m s0 s5 wr => ∃ (k v : Nat), k + m = n ∧ s5 = .int .i64 k ∧ s0 = .int .i64 v ∧ v = (rotU x k).toNat ∧ w = wr)
  case atStart => exact ⟨0, x.toNat, by omega, rfl, rfl, by rw [rotU_zero], rfl⟩
  case round =>
    obtain ⟨k, v, hk, rfl, rfl, hv, rfl⟩ := hrel
    have hlt : v < 4294967296 := by rw [hv]; exact (rotU x k).isLt
    by_cases t : k < n
    · have ti : (k : Int) < n := by omega
      have HE : Hid ((v : Int) * 2 % 4294967296 + (v : Int) / 2147483648 = ((rotU x (k + 1)).toNat : Int)) := by
        show _ = _
        rw [← rotU_succ x k (by omega), ← rotU_one, hv]
      have HV := Lib.hid hv
      clear hv
      go_wp2_with fail
      go_roundg (n - (k + 1))
      case rel => exact ⟨k + 1, (rotU x (k + 1)).toNat, by omega, by go_num, by rw [← HE.out], rfl, rfl⟩
      case measure => omega
    · obtain rfl : k = n := by omega
      have HV := Lib.hid hv
      clear hv
      go_wp2_with fail
      go_ret
      exact ⟨by rw [HV.out]; rfl, rfl⟩
end Go.Proofs.YtglafpdealjlnaaGreat
