/-
  No cell of these rows narrows 'for every input' (looked for: loops, veiled, ifaces, maps, wideKeys, modest, calm, conditions, laid).
  DERIVED. THE GIVEN ROWS OF THIS SEAT. 4 by the template 'for every input the law returns true; each argument reads behind the call as it read before'; 0 by the template 'total and deterministic' (their statements: YtopgphbmlcophaaTotals.lean).
  GIVEN WITH THE SEED: the statements are not yours to turn. If you find one false, say at which input.
  Laid BY PROGRAM, IN A SANDBOX (cutbox-rows.mjs): the forced cells as the released guide's own fill.sh prints them over the translation 41fb6c70ee4ac3d3… (all of the seat's roots in one cut). By AI agents, Wed Nov 11 2026. No macro, syntax, notation, axiom, sorry.
-/
import Derived.Test.YtopgphbmlcophaaChecked
import GoSem.Claim
import GoSem.ClaimJoined
import GoSem.ClaimMapViews
import Derived.JoinedTies
import Derived.KernelRfl
namespace Go.Proofs.Ytopgphbmlcophaa
/- THE CELL 'sum', in the pinned program and in every row, IS THE sha256 OF THE DUMP (.gsa) THAT YtopgphbmlcophaaProg.lean LOADS. Nothing in Lean hashes anything: it is a label: what it is worth is what the hold of that sum in a sandbox is worth. -/
noncomputable def Try.pinned : Pinned := { name := "ytopgphbmlcophaa", sum := "41fb6c70ee4ac3d3dc1c0a93398b254bc8ca50abe2b547588ed437ab760e8474", checked := Try.checked }
namespace Rows
def none {H : Type} : Left H := { results := [], args := [] }

/-- 'tollgatelaw5.TagFinds': WHATEVER THE INPUT: true; the input reads as it did. -/
def tagFindsSpec : ChangeSpec := { name := "tagFinds", fn := fun _ => fun
  | [d1, d2, d3] => { results := [.lit (.bool true)], args := [d1, d2, d3] }
  | _ => none }
def tagFindsRow : OpenClaim := { program := "ytopgphbmlcophaa", sum := "41fb6c70ee4ac3d3dc1c0a93398b254bc8ca50abe2b547588ed437ab760e8474", func := "tollgate/tollgatelaw5.TagFinds", spec := "tagFinds", unfollowed := true, recurses := true, apart := false }
def TagFindsSaid : Prop := tagFindsRow.holds Try.pinned (OpenSpec.ofChange tagFindsSpec)

/-- ITS FALSE NEIGHBOUR: 'it returns false'. Refute it at one input. -/
def tagFindsWrong : ChangeSpec := { name := "tagFinds", fn := fun _ => fun
  | [d1, d2, d3] => { results := [.lit (.bool false)], args := [d1, d2, d3] }
  | _ => none }
def TagFindsWrongFalsely : Prop := tagFindsRow.holds Try.pinned (OpenSpec.ofChange tagFindsWrong)

/-- 'tollgatelaw5.TagBack': WHATEVER THE INPUT: true; the input reads as it did. -/
def tagBackSpec : ChangeSpec := { name := "tagBack", fn := fun _ => fun
  | [d1, d2, d3] => { results := [.lit (.bool true)], args := [d1, d2, d3] }
  | _ => none }
def tagBackRow : OpenClaim := { program := "ytopgphbmlcophaa", sum := "41fb6c70ee4ac3d3dc1c0a93398b254bc8ca50abe2b547588ed437ab760e8474", func := "tollgate/tollgatelaw5.TagBack", spec := "tagBack", unfollowed := true, recurses := true, apart := false }
def TagBackSaid : Prop := tagBackRow.holds Try.pinned (OpenSpec.ofChange tagBackSpec)

/-- ITS FALSE NEIGHBOUR: 'it returns false'. Refute it at one input. -/
def tagBackWrong : ChangeSpec := { name := "tagBack", fn := fun _ => fun
  | [d1, d2, d3] => { results := [.lit (.bool false)], args := [d1, d2, d3] }
  | _ => none }
def TagBackWrongFalsely : Prop := tagBackRow.holds Try.pinned (OpenSpec.ofChange tagBackWrong)

/-- 'tollgatelaw5.TagCut': WHATEVER THE INPUT: true; the input reads as it did. -/
def tagCutSpec : ChangeSpec := { name := "tagCut", fn := fun _ => fun
  | [d1, d2, d3] => { results := [.lit (.bool true)], args := [d1, d2, d3] }
  | _ => none }
def tagCutRow : OpenClaim := { program := "ytopgphbmlcophaa", sum := "41fb6c70ee4ac3d3dc1c0a93398b254bc8ca50abe2b547588ed437ab760e8474", func := "tollgate/tollgatelaw5.TagCut", spec := "tagCut", unfollowed := true, recurses := true, apart := false }
def TagCutSaid : Prop := tagCutRow.holds Try.pinned (OpenSpec.ofChange tagCutSpec)

/-- ITS FALSE NEIGHBOUR: 'it returns false'. Refute it at one input. -/
def tagCutWrong : ChangeSpec := { name := "tagCut", fn := fun _ => fun
  | [d1, d2, d3] => { results := [.lit (.bool false)], args := [d1, d2, d3] }
  | _ => none }
def TagCutWrongFalsely : Prop := tagCutRow.holds Try.pinned (OpenSpec.ofChange tagCutWrong)

/-- 'tollgatelaw5.TagLong': WHATEVER THE INPUT: true; the input reads as it did. -/
def tagLongSpec : ChangeSpec := { name := "tagLong", fn := fun _ => fun
  | [d] => { results := [.lit (.bool true)], args := [d] }
  | _ => none }
def tagLongRow : OpenClaim := { program := "ytopgphbmlcophaa", sum := "41fb6c70ee4ac3d3dc1c0a93398b254bc8ca50abe2b547588ed437ab760e8474", func := "tollgate/tollgatelaw5.TagLong", spec := "tagLong", unfollowed := true, recurses := true, apart := false }
def TagLongSaid : Prop := tagLongRow.holds Try.pinned (OpenSpec.ofChange tagLongSpec)

/-- ITS FALSE NEIGHBOUR: 'it returns false'. Refute it at one input. -/
def tagLongWrong : ChangeSpec := { name := "tagLong", fn := fun _ => fun
  | [d] => { results := [.lit (.bool false)], args := [d] }
  | _ => none }
def TagLongWrongFalsely : Prop := tagLongRow.holds Try.pinned (OpenSpec.ofChange tagLongWrong)

/- THE SECOND FORM. 'bulk': how many values and letters a reading holds, each counted each time it is reached (what is shared counts as often as it is met; a slice's spare places count too). A statement '..UptoSaid' is the law's where the arguments, and the package variables that the reading takes, are together of bulk at most 1048576: NARROWER than '..Said'. Prove '..Said' where nothing that the law and all that it calls make is longer than what came in: it says more and counts as full. Else prove '..UptoSaid'. A law counts once. -/
mutual
def uptoBulk {H : Type} : DataW H → Nat
  | .lit (.string bytes) => bytes.length + 1
  | .lit _ => 1
  | .nil => 1
  | .ptr d => uptoBulk d + 1
  | .slice elems spare => uptoBulkAll elems + uptoBulkAll spare + 1
  | .agg parts => uptoBulkAll parts + 1
  | .iface _ d => uptoBulk d + 1
  | .map entries => uptoBulkEntries entries + 1
  | .held _ => 1
def uptoBulkAll {H : Type} : List (DataW H) → Nat
  | [] => 0
  | d :: r => uptoBulk d + uptoBulkAll r
def uptoBulkEntries {H : Type} : List (Lit × DataW H) → Nat
  | [] => 0
  | x :: r => uptoBulkEntry x + uptoBulkEntries r
def uptoBulkEntry {H : Type} : Lit × DataW H → Nat
  | (.string bytes, d) => bytes.length + uptoBulk d + 1
  | (_, d) => uptoBulk d + 1
 end
def uptoSmall : (H : Type) → List (DataW H) → Bool := fun _ ds => decide (uptoBulkAll ds ≤ 1048576)
def OpenSpec.upto (s : _root_.Go.ChangeSpec) : _root_.Go.OpenSpec := { _root_.Go.OpenSpec.ofChange s with cond := some uptoSmall }

/-- 'tollgatelaw5.TagFinds', WHERE WHAT IT READS IS OF BULK AT MOST 1048576: true; the input reads as it did. -/
def tagFindsUptoRow : OpenClaim := { program := "ytopgphbmlcophaa", sum := "41fb6c70ee4ac3d3dc1c0a93398b254bc8ca50abe2b547588ed437ab760e8474", func := "tollgate/tollgatelaw5.TagFinds", spec := "tagFinds", unfollowed := true, recurses := true, apart := false, narrowed := true }
def TagFindsUptoSaid : Prop := tagFindsUptoRow.holds Try.pinned (OpenSpec.upto tagFindsSpec)

/-- 'tollgatelaw5.TagBack', WHERE WHAT IT READS IS OF BULK AT MOST 1048576: true; the input reads as it did. -/
def tagBackUptoRow : OpenClaim := { program := "ytopgphbmlcophaa", sum := "41fb6c70ee4ac3d3dc1c0a93398b254bc8ca50abe2b547588ed437ab760e8474", func := "tollgate/tollgatelaw5.TagBack", spec := "tagBack", unfollowed := true, recurses := true, apart := false, narrowed := true }
def TagBackUptoSaid : Prop := tagBackUptoRow.holds Try.pinned (OpenSpec.upto tagBackSpec)

/-- 'tollgatelaw5.TagCut', WHERE WHAT IT READS IS OF BULK AT MOST 1048576: true; the input reads as it did. -/
def tagCutUptoRow : OpenClaim := { program := "ytopgphbmlcophaa", sum := "41fb6c70ee4ac3d3dc1c0a93398b254bc8ca50abe2b547588ed437ab760e8474", func := "tollgate/tollgatelaw5.TagCut", spec := "tagCut", unfollowed := true, recurses := true, apart := false, narrowed := true }
def TagCutUptoSaid : Prop := tagCutUptoRow.holds Try.pinned (OpenSpec.upto tagCutSpec)

/-- 'tollgatelaw5.TagLong', WHERE WHAT IT READS IS OF BULK AT MOST 1048576: true; the input reads as it did. -/
def tagLongUptoRow : OpenClaim := { program := "ytopgphbmlcophaa", sum := "41fb6c70ee4ac3d3dc1c0a93398b254bc8ca50abe2b547588ed437ab760e8474", func := "tollgate/tollgatelaw5.TagLong", spec := "tagLong", unfollowed := true, recurses := true, apart := false, narrowed := true }
def TagLongUptoSaid : Prop := tagLongUptoRow.holds Try.pinned (OpenSpec.upto tagLongSpec)

end Rows
end Go.Proofs.Ytopgphbmlcophaa
