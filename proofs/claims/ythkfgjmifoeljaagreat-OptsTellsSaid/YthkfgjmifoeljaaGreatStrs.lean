/- Plain: strings out of slices of bytes. No program in sight. -/
import Derived.Test.YthkfgjmifoeljaaGreatLib
import Derived.Test.YthkfgjmifoeljaaGreatBytes
namespace Go.Proofs.YthkfgjmifoeljaaGreat
open Go.RowKit

theorem str1 {P : Program} {src e dst : TypeId} (hs : P.underlying src = some (.slice e)) (he : P.underlying e = some (.int .u8)) (hd : P.underlying dst = some .string) {v : World} {g : Nat} {x : Int} (hb : Blk v g e #[.int .u8 x]) :
    (convert src dst (.slice (some ⟨g, 0, none⟩) 1 1)).run P v = .ok (.string (strOfNums [x])) v :=
  run_convert_bytes_arg _ src e hs he g 0 1 1 [x] rfl (fun i hi => by
    rw [Nat.zero_add, hb.cell]
    have : i = 0 := by omega
    subst this; rfl) dst hd
theorem str2 {P : Program} {src e dst : TypeId} (hs : P.underlying src = some (.slice e)) (he : P.underlying e = some (.int .u8)) (hd : P.underlying dst = some .string) {v : World} {g : Nat} {x y : Int} (hb : Blk v g e #[.int .u8 x, .int .u8 y]) :
    (convert src dst (.slice (some ⟨g, 0, none⟩) 2 2)).run P v = .ok (.string (strOfNums [x, y])) v :=
  run_convert_bytes_arg _ src e hs he g 0 2 2 [x, y] rfl (fun i hi => by
    rw [Nat.zero_add, hb.cell]
    have : i = 0 ∨ i = 1 := by omega
    rcases this with rfl | rfl <;> rfl) dst hd
theorem str3 {P : Program} {src e dst : TypeId} (hs : P.underlying src = some (.slice e)) (he : P.underlying e = some (.int .u8)) (hd : P.underlying dst = some .string) {v : World} {g : Nat} {x y z : Int} (hb : Blk v g e #[.int .u8 x, .int .u8 y, .int .u8 z]) :
    (convert src dst (.slice (some ⟨g, 0, none⟩) 3 3)).run P v = .ok (.string (strOfNums [x, y, z])) v :=
  run_convert_bytes_arg _ src e hs he g 0 3 3 [x, y, z] rfl (fun i hi => by
    rw [Nat.zero_add, hb.cell]
    have : i = 0 ∨ i = 1 ∨ i = 2 := by omega
    rcases this with rfl | rfl | rfl <;> rfl) dst hd
end Go.Proofs.YthkfgjmifoeljaaGreat
