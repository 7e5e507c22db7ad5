/- The walk of digest.table. -/
import Derived.Test.YtglafpdealjlnaaGreatProg
import Derived.Laws.Tables
import Derived.Great.Walk
import Derived.Deep.Cut
import Derived.Test.YtglafpdealjlnaaGreatQRely
import Derived.Test.YtglafpdealjlnaaGreatQDigP
namespace Go.Proofs.YtglafpdealjlnaaGreat
open Go.RowKit
set_option linter.unusedSimpArgs false
set_option linter.unusedVariables false
set_option maxRecDepth 100000

def tabRow : Array Value := ((List.range 64).map fun j => Value.int .u32 (tabU j).toNat).toArray
theorem tabRow_get (j : Nat) (h : j < 64) : tabRow[j]? = some (.int .u32 (tabU j).toNat) := by simp [tabRow, h]

set_option maxHeartbeats 4000000 in
theorem table_any (i : Nat) (hi : i < 64) (w : World) :
    Calls Tryz.prog 342 #[.int .i64 i] w fun e w' => e = .returned (.int .u32 (tabU i).toNat) ∧ Upd [] w w' := by
  obtain ⟨r, hr⟩ : ∃ r : Int, ((tabU i).toNat : Int) = r := ⟨_, rfl⟩
  have hget := tabRow_get i hi
  rw [hr] at hget ⊢
  go_enter Tryz.func342, Tryz.ntmps342
  go_upto_region 1 with (fail)
  refine wp_region_lit ?_
  refine wpList_build rfl _ _ rfl (by kernel_rfl) ?_
  generalize he : (Program.built _ _ _).getD #[] = T
  have hT : T = tabRow := by rw [← he]; kernel_rfl
  clear he
  generalize (#[_, _, _] : Array Oper) = ops
  refine Go.Great.wpList_allocTo rfl (some 3) rfl (.pointer (some ⟨w.heap.size, 0, none⟩)) (.cells (List.replicate 64 (Value.int .u32 0)).toArray 384) (by kernel_rfl) ?_
  refine wpList_store_row rfl 384 _ _ rfl w.heap.size T rfl rfl 384 _ (heap_alloc_new w _) (by rw [hT]; kernel_rfl) (by rw [hT]; simp [tabRow]) (by rw [hT]; kernel_rfl) ?_
  have hcell : ((w.alloc (.cells (List.replicate 64 (Value.int .u32 0)).toArray 384)).setRow w.heap.size T).cell? ⟨w.heap.size, i, none⟩ = some (.int .u32 r) := by
    rw [cell_setRow_same _ _ _ _ _ _ _ (heap_alloc_new w _), hT, hget]
  have hu : Upd [] w ((w.alloc (.cells (List.replicate 64 (Value.int .u32 0)).toArray 384)).setRow w.heap.size T) :=
    ⟨rfl, rfl, rfl, by simp, fun k hk _ => (setRow_other _ _ _ _ (by omega)).trans (Below.heap_alloc w _ k hk)⟩
  clear hT hget
  generalize (w.alloc (.cells (List.replicate 64 (Value.int .u32 0)).toArray 384)).setRow w.heap.size T = W at *
  simp only [Act.put, Nat.zero_add, Nat.reduceAdd, List.setIfInBounds_toArray, List.set_cons_zero, List.set_cons_succ]
  go_wp2_with fail
  go_ret
  exact ⟨rfl, hu⟩
end Go.Proofs.YtglafpdealjlnaaGreat
