/-
  No cell of these rows narrows 'for every input' (looked for: loops, veiled, ifaces, maps, wideKeys, modest, calm, conditions, laid).
  DERIVED. THE GIVEN ROWS OF THIS SEAT. 4 by the template 'for every input the law returns true; each argument reads behind the call as it read before'; 0 by the template 'total and deterministic' (their statements: YtbhohdhndelddaaTotals.lean).
  GIVEN WITH THE SEED: the statements are not yours to turn. If you find one false, say at which input.
  Laid BY PROGRAM, IN A SANDBOX (cutbox-rows.mjs): the forced cells as the released guide's own fill.sh prints them over the translation 1b5f2f512cca2404… (all of the seat's roots in one cut). By AI agents, Wed Nov 11 2026. No macro, syntax, notation, axiom, sorry.
-/
import Derived.Test.YtbhohdhndelddaaChecked
import GoSem.Claim
import GoSem.ClaimJoined
import GoSem.ClaimMapViews
import Derived.JoinedTies
import Derived.KernelRfl
namespace Go.Proofs.Ytbhohdhndelddaa
/- THE CELL 'sum', in the pinned program and in every row, IS THE sha256 OF THE DUMP (.gsa) THAT YtbhohdhndelddaaProg.lean LOADS. Nothing in Lean hashes anything: it is a label: what it is worth is what the hold of that sum in a sandbox is worth. -/
noncomputable def Try.pinned : Pinned := { name := "ytbhohdhndelddaa", sum := "1b5f2f512cca2404b48a253823664a0e058ddd36c558cbf9b29a2d81442223e4", checked := Try.checked }
namespace Rows
def none {H : Type} : Left H := { results := [], args := [] }

/-- 'tollgatelaw18.AvpBack': WHATEVER THE INPUT: true; the input reads as it did. -/
def avpBackSpec : ChangeSpec := { name := "avpBack", fn := fun _ => fun
  | [d1, d2, d3] => { results := [.lit (.bool true)], args := [d1, d2, d3] }
  | _ => none }
def avpBackRow : OpenClaim := { program := "ytbhohdhndelddaa", sum := "1b5f2f512cca2404b48a253823664a0e058ddd36c558cbf9b29a2d81442223e4", func := "tollgate/tollgatelaw18.AvpBack", spec := "avpBack", inPlace := ["internal/abi.NoEscape"], unfollowed := true, recurses := true, plainKeys := false, apart := false }
def AvpBackSaid : Prop := avpBackRow.holds Try.pinned (OpenSpec.ofChange avpBackSpec)

/-- ITS FALSE NEIGHBOUR: 'it returns false'. Refute it at one input. -/
def avpBackWrong : ChangeSpec := { name := "avpBack", fn := fun _ => fun
  | [d1, d2, d3] => { results := [.lit (.bool false)], args := [d1, d2, d3] }
  | _ => none }
def AvpBackWrongFalsely : Prop := avpBackRow.holds Try.pinned (OpenSpec.ofChange avpBackWrong)

/-- 'tollgatelaw18.AvpHides': WHATEVER THE INPUT: true; the input reads as it did. -/
def avpHidesSpec : ChangeSpec := { name := "avpHides", fn := fun _ => fun
  | [d1, d2, d3, d4, d5] => { results := [.lit (.bool true)], args := [d1, d2, d3, d4, d5] }
  | _ => none }
def avpHidesRow : OpenClaim := { program := "ytbhohdhndelddaa", sum := "1b5f2f512cca2404b48a253823664a0e058ddd36c558cbf9b29a2d81442223e4", func := "tollgate/tollgatelaw18.AvpHides", spec := "avpHides", inPlace := ["internal/abi.NoEscape"], unfollowed := true, recurses := true, plainKeys := false, apart := false }
def AvpHidesSaid : Prop := avpHidesRow.holds Try.pinned (OpenSpec.ofChange avpHidesSpec)

/-- ITS FALSE NEIGHBOUR: 'it returns false'. Refute it at one input. -/
def avpHidesWrong : ChangeSpec := { name := "avpHides", fn := fun _ => fun
  | [d1, d2, d3, d4, d5] => { results := [.lit (.bool false)], args := [d1, d2, d3, d4, d5] }
  | _ => none }
def AvpHidesWrongFalsely : Prop := avpHidesRow.holds Try.pinned (OpenSpec.ofChange avpHidesWrong)

/-- 'tollgatelaw18.AvpFinds': WHATEVER THE INPUT: true; the input reads as it did. -/
def avpFindsSpec : ChangeSpec := { name := "avpFinds", fn := fun _ => fun
  | [d1, d2] => { results := [.lit (.bool true)], args := [d1, d2] }
  | _ => none }
def avpFindsRow : OpenClaim := { program := "ytbhohdhndelddaa", sum := "1b5f2f512cca2404b48a253823664a0e058ddd36c558cbf9b29a2d81442223e4", func := "tollgate/tollgatelaw18.AvpFinds", spec := "avpFinds", inPlace := ["internal/abi.NoEscape"], unfollowed := true, recurses := true, plainKeys := false, apart := false }
def AvpFindsSaid : Prop := avpFindsRow.holds Try.pinned (OpenSpec.ofChange avpFindsSpec)

/-- ITS FALSE NEIGHBOUR: 'it returns false'. Refute it at one input. -/
def avpFindsWrong : ChangeSpec := { name := "avpFinds", fn := fun _ => fun
  | [d1, d2] => { results := [.lit (.bool false)], args := [d1, d2] }
  | _ => none }
def AvpFindsWrongFalsely : Prop := avpFindsRow.holds Try.pinned (OpenSpec.ofChange avpFindsWrong)

/-- 'tollgatelaw18.AvpNums': WHATEVER THE INPUT: true; the input reads as it did. -/
def avpNumsSpec : ChangeSpec := { name := "avpNums", fn := fun _ => fun
  | [d1, d2, d3, d4] => { results := [.lit (.bool true)], args := [d1, d2, d3, d4] }
  | _ => none }
def avpNumsRow : OpenClaim := { program := "ytbhohdhndelddaa", sum := "1b5f2f512cca2404b48a253823664a0e058ddd36c558cbf9b29a2d81442223e4", func := "tollgate/tollgatelaw18.AvpNums", spec := "avpNums", inPlace := ["internal/abi.NoEscape"], unfollowed := true, recurses := true, plainKeys := false, apart := false }
def AvpNumsSaid : Prop := avpNumsRow.holds Try.pinned (OpenSpec.ofChange avpNumsSpec)

/-- ITS FALSE NEIGHBOUR: 'it returns false'. Refute it at one input. -/
def avpNumsWrong : ChangeSpec := { name := "avpNums", fn := fun _ => fun
  | [d1, d2, d3, d4] => { results := [.lit (.bool false)], args := [d1, d2, d3, d4] }
  | _ => none }
def AvpNumsWrongFalsely : Prop := avpNumsRow.holds Try.pinned (OpenSpec.ofChange avpNumsWrong)

/- THE SECOND FORM. 'bulk': how many values and letters a reading holds, each counted each time it is reached (what is shared counts as often as it is met; a slice's spare places count too). A statement '..UptoSaid' is the law's where the arguments, and the package variables that the reading takes, are together of bulk at most 1048576: NARROWER than '..Said'. Prove '..Said' where nothing that the law and all that it calls make is longer than what came in: it says more and counts as full. Else prove '..UptoSaid'. A law counts once. -/
mutual
def uptoBulk {H : Type} : DataW H → Nat
  | .lit (.string bytes) => bytes.length + 1
  | .lit _ => 1
  | .nil => 1
  | .ptr d => uptoBulk d + 1
  | .slice elems spare => uptoBulkAll elems + uptoBulkAll spare + 1
  | .agg parts => uptoBulkAll parts + 1
  | .iface _ d => uptoBulk d + 1
  | .map entries => uptoBulkEntries entries + 1
  | .held _ => 1
def uptoBulkAll {H : Type} : List (DataW H) → Nat
  | [] => 0
  | d :: r => uptoBulk d + uptoBulkAll r
def uptoBulkEntries {H : Type} : List (Lit × DataW H) → Nat
  | [] => 0
  | x :: r => uptoBulkEntry x + uptoBulkEntries r
def uptoBulkEntry {H : Type} : Lit × DataW H → Nat
  | (.string bytes, d) => bytes.length + uptoBulk d + 1
  | (_, d) => uptoBulk d + 1
 end
def uptoSmall : (H : Type) → List (DataW H) → Bool := fun _ ds => decide (uptoBulkAll ds ≤ 1048576)
def OpenSpec.upto (s : _root_.Go.ChangeSpec) : _root_.Go.OpenSpec := { _root_.Go.OpenSpec.ofChange s with cond := some uptoSmall }

/-- 'tollgatelaw18.AvpBack', WHERE WHAT IT READS IS OF BULK AT MOST 1048576: true; the input reads as it did. -/
def avpBackUptoRow : OpenClaim := { program := "ytbhohdhndelddaa", sum := "1b5f2f512cca2404b48a253823664a0e058ddd36c558cbf9b29a2d81442223e4", func := "tollgate/tollgatelaw18.AvpBack", spec := "avpBack", inPlace := ["internal/abi.NoEscape"], unfollowed := true, recurses := true, plainKeys := false, apart := false, narrowed := true }
def AvpBackUptoSaid : Prop := avpBackUptoRow.holds Try.pinned (OpenSpec.upto avpBackSpec)

/-- 'tollgatelaw18.AvpHides', WHERE WHAT IT READS IS OF BULK AT MOST 1048576: true; the input reads as it did. -/
def avpHidesUptoRow : OpenClaim := { program := "ytbhohdhndelddaa", sum := "1b5f2f512cca2404b48a253823664a0e058ddd36c558cbf9b29a2d81442223e4", func := "tollgate/tollgatelaw18.AvpHides", spec := "avpHides", inPlace := ["internal/abi.NoEscape"], unfollowed := true, recurses := true, plainKeys := false, apart := false, narrowed := true }
def AvpHidesUptoSaid : Prop := avpHidesUptoRow.holds Try.pinned (OpenSpec.upto avpHidesSpec)

/-- 'tollgatelaw18.AvpFinds', WHERE WHAT IT READS IS OF BULK AT MOST 1048576: true; the input reads as it did. -/
def avpFindsUptoRow : OpenClaim := { program := "ytbhohdhndelddaa", sum := "1b5f2f512cca2404b48a253823664a0e058ddd36c558cbf9b29a2d81442223e4", func := "tollgate/tollgatelaw18.AvpFinds", spec := "avpFinds", inPlace := ["internal/abi.NoEscape"], unfollowed := true, recurses := true, plainKeys := false, apart := false, narrowed := true }
def AvpFindsUptoSaid : Prop := avpFindsUptoRow.holds Try.pinned (OpenSpec.upto avpFindsSpec)

/-- 'tollgatelaw18.AvpNums', WHERE WHAT IT READS IS OF BULK AT MOST 1048576: true; the input reads as it did. -/
def avpNumsUptoRow : OpenClaim := { program := "ytbhohdhndelddaa", sum := "1b5f2f512cca2404b48a253823664a0e058ddd36c558cbf9b29a2d81442223e4", func := "tollgate/tollgatelaw18.AvpNums", spec := "avpNums", inPlace := ["internal/abi.NoEscape"], unfollowed := true, recurses := true, plainKeys := false, apart := false, narrowed := true }
def AvpNumsUptoSaid : Prop := avpNumsUptoRow.holds Try.pinned (OpenSpec.upto avpNumsSpec)

end Rows
end Go.Proofs.Ytbhohdhndelddaa
