/-
  No cell of these rows narrows 'for every input' (looked for: loops, veiled, ifaces, maps, wideKeys, modest, calm, conditions, laid).
  DERIVED. THE GIVEN ROWS OF THIS SEAT. 6 by the template 'for every input the law returns true; each argument reads behind the call as it read before'; 0 by the template 'total and deterministic' (their statements: YtclodmcdimaccaaTotals.lean).
  GIVEN WITH THE SEED: the statements are not yours to turn. If you find one false, say at which input.
  Laid BY PROGRAM, IN A SANDBOX (cutbox-rows.mjs): the forced cells as the released guide's own fill.sh prints them over the translation 2707bcfef7a33a29… (all of the seat's roots in one cut). By AI agents, Wed Nov 11 2026. No macro, syntax, notation, axiom, sorry.
-/
import Derived.Test.YtclodmcdimaccaaChecked
import GoSem.Claim
import GoSem.ClaimJoined
import GoSem.ClaimMapViews
import Derived.JoinedTies
import Derived.KernelRfl
namespace Go.Proofs.Ytclodmcdimaccaa
/- THE CELL 'sum', in the pinned program and in every row, IS THE sha256 OF THE DUMP (.gsa) THAT YtclodmcdimaccaaProg.lean LOADS. Nothing in Lean hashes anything: it is a label: what it is worth is what the hold of that sum in a sandbox is worth. -/
noncomputable def Try.pinned : Pinned := { name := "ytclodmcdimaccaa", sum := "2707bcfef7a33a2912d1a1b350248578a60e36631cde117d4c24722a3d10ff72", checked := Try.checked }
namespace Rows
def none {H : Type} : Left H := { results := [], args := [] }

/-- 'tollgatelaw20.CtlAcks': WHATEVER THE INPUT: true; the input reads as it did. -/
def ctlAcksSpec : ChangeSpec := { name := "ctlAcks", fn := fun _ => fun
  | [d1, d2, d3] => { results := [.lit (.bool true)], args := [d1, d2, d3] }
  | _ => none }
def ctlAcksRow : OpenClaim := { program := "ytclodmcdimaccaa", sum := "2707bcfef7a33a2912d1a1b350248578a60e36631cde117d4c24722a3d10ff72", func := "tollgate/tollgatelaw20.CtlAcks", spec := "ctlAcks", unfollowed := true, recurses := true, apart := false }
def CtlAcksSaid : Prop := ctlAcksRow.holds Try.pinned (OpenSpec.ofChange ctlAcksSpec)

/-- ITS FALSE NEIGHBOUR: 'it returns false'. Refute it at one input. -/
def ctlAcksWrong : ChangeSpec := { name := "ctlAcks", fn := fun _ => fun
  | [d1, d2, d3] => { results := [.lit (.bool false)], args := [d1, d2, d3] }
  | _ => none }
def CtlAcksWrongFalsely : Prop := ctlAcksRow.holds Try.pinned (OpenSpec.ofChange ctlAcksWrong)

/-- 'tollgatelaw20.CtlGives': WHATEVER THE INPUT: true; the input reads as it did. -/
def ctlGivesSpec : ChangeSpec := { name := "ctlGives", fn := fun _ => fun
  | [d1, d2] => { results := [.lit (.bool true)], args := [d1, d2] }
  | _ => none }
def ctlGivesRow : OpenClaim := { program := "ytclodmcdimaccaa", sum := "2707bcfef7a33a2912d1a1b350248578a60e36631cde117d4c24722a3d10ff72", func := "tollgate/tollgatelaw20.CtlGives", spec := "ctlGives", unfollowed := true, recurses := true, apart := false }
def CtlGivesSaid : Prop := ctlGivesRow.holds Try.pinned (OpenSpec.ofChange ctlGivesSpec)

/-- ITS FALSE NEIGHBOUR: 'it returns false'. Refute it at one input. -/
def ctlGivesWrong : ChangeSpec := { name := "ctlGives", fn := fun _ => fun
  | [d1, d2] => { results := [.lit (.bool false)], args := [d1, d2] }
  | _ => none }
def CtlGivesWrongFalsely : Prop := ctlGivesRow.holds Try.pinned (OpenSpec.ofChange ctlGivesWrong)

/-- 'tollgatelaw20.CtlBrings': WHATEVER THE INPUT: true; the input reads as it did. -/
def ctlBringsSpec : ChangeSpec := { name := "ctlBrings", fn := fun _ => fun
  | [d1, d2, d3, d4] => { results := [.lit (.bool true)], args := [d1, d2, d3, d4] }
  | _ => none }
def ctlBringsRow : OpenClaim := { program := "ytclodmcdimaccaa", sum := "2707bcfef7a33a2912d1a1b350248578a60e36631cde117d4c24722a3d10ff72", func := "tollgate/tollgatelaw20.CtlBrings", spec := "ctlBrings", unfollowed := true, recurses := true, apart := false }
def CtlBringsSaid : Prop := ctlBringsRow.holds Try.pinned (OpenSpec.ofChange ctlBringsSpec)

/-- ITS FALSE NEIGHBOUR: 'it returns false'. Refute it at one input. -/
def ctlBringsWrong : ChangeSpec := { name := "ctlBrings", fn := fun _ => fun
  | [d1, d2, d3, d4] => { results := [.lit (.bool false)], args := [d1, d2, d3, d4] }
  | _ => none }
def CtlBringsWrongFalsely : Prop := ctlBringsRow.holds Try.pinned (OpenSpec.ofChange ctlBringsWrong)

/-- 'tollgatelaw20.CtlWindow': WHATEVER THE INPUT: true; the input reads as it did. -/
def ctlWindowSpec : ChangeSpec := { name := "ctlWindow", fn := fun _ => fun
  | [d1, d2, d3] => { results := [.lit (.bool true)], args := [d1, d2, d3] }
  | _ => none }
def ctlWindowRow : OpenClaim := { program := "ytclodmcdimaccaa", sum := "2707bcfef7a33a2912d1a1b350248578a60e36631cde117d4c24722a3d10ff72", func := "tollgate/tollgatelaw20.CtlWindow", spec := "ctlWindow", unfollowed := true, recurses := true, apart := false }
def CtlWindowSaid : Prop := ctlWindowRow.holds Try.pinned (OpenSpec.ofChange ctlWindowSpec)

/-- ITS FALSE NEIGHBOUR: 'it returns false'. Refute it at one input. -/
def ctlWindowWrong : ChangeSpec := { name := "ctlWindow", fn := fun _ => fun
  | [d1, d2, d3] => { results := [.lit (.bool false)], args := [d1, d2, d3] }
  | _ => none }
def CtlWindowWrongFalsely : Prop := ctlWindowRow.holds Try.pinned (OpenSpec.ofChange ctlWindowWrong)

/-- 'tollgatelaw20.CtlFair': WHATEVER THE INPUT: true; the input reads as it did. -/
def ctlFairSpec : ChangeSpec := { name := "ctlFair", fn := fun _ => fun
  | [d1, d2, d3, d4] => { results := [.lit (.bool true)], args := [d1, d2, d3, d4] }
  | _ => none }
def ctlFairRow : OpenClaim := { program := "ytclodmcdimaccaa", sum := "2707bcfef7a33a2912d1a1b350248578a60e36631cde117d4c24722a3d10ff72", func := "tollgate/tollgatelaw20.CtlFair", spec := "ctlFair", unfollowed := true, recurses := true, apart := false }
def CtlFairSaid : Prop := ctlFairRow.holds Try.pinned (OpenSpec.ofChange ctlFairSpec)

/-- ITS FALSE NEIGHBOUR: 'it returns false'. Refute it at one input. -/
def ctlFairWrong : ChangeSpec := { name := "ctlFair", fn := fun _ => fun
  | [d1, d2, d3, d4] => { results := [.lit (.bool false)], args := [d1, d2, d3, d4] }
  | _ => none }
def CtlFairWrongFalsely : Prop := ctlFairRow.holds Try.pinned (OpenSpec.ofChange ctlFairWrong)

/-- 'tollgatelaw20.CtlNone': WHATEVER THE INPUT: true; the input reads as it did. -/
def ctlNoneSpec : ChangeSpec := { name := "ctlNone", fn := fun _ => fun
  | [d] => { results := [.lit (.bool true)], args := [d] }
  | _ => none }
def ctlNoneRow : OpenClaim := { program := "ytclodmcdimaccaa", sum := "2707bcfef7a33a2912d1a1b350248578a60e36631cde117d4c24722a3d10ff72", func := "tollgate/tollgatelaw20.CtlNone", spec := "ctlNone", unfollowed := true, recurses := true, apart := false }
def CtlNoneSaid : Prop := ctlNoneRow.holds Try.pinned (OpenSpec.ofChange ctlNoneSpec)

/-- ITS FALSE NEIGHBOUR: 'it returns false'. Refute it at one input. -/
def ctlNoneWrong : ChangeSpec := { name := "ctlNone", fn := fun _ => fun
  | [d] => { results := [.lit (.bool false)], args := [d] }
  | _ => none }
def CtlNoneWrongFalsely : Prop := ctlNoneRow.holds Try.pinned (OpenSpec.ofChange ctlNoneWrong)

/- THE SECOND FORM. 'bulk': how many values and letters a reading holds, each counted each time it is reached (what is shared counts as often as it is met; a slice's spare places count too). A statement '..UptoSaid' is the law's where the arguments, and the package variables that the reading takes, are together of bulk at most 1048576: NARROWER than '..Said'. Prove '..Said' where nothing that the law and all that it calls make is longer than what came in: it says more and counts as full. Else prove '..UptoSaid'. A law counts once. -/
mutual
def uptoBulk {H : Type} : DataW H → Nat
  | .lit (.string bytes) => bytes.length + 1
  | .lit _ => 1
  | .nil => 1
  | .ptr d => uptoBulk d + 1
  | .slice elems spare => uptoBulkAll elems + uptoBulkAll spare + 1
  | .agg parts => uptoBulkAll parts + 1
  | .iface _ d => uptoBulk d + 1
  | .map entries => uptoBulkEntries entries + 1
  | .held _ => 1
def uptoBulkAll {H : Type} : List (DataW H) → Nat
  | [] => 0
  | d :: r => uptoBulk d + uptoBulkAll r
def uptoBulkEntries {H : Type} : List (Lit × DataW H) → Nat
  | [] => 0
  | x :: r => uptoBulkEntry x + uptoBulkEntries r
def uptoBulkEntry {H : Type} : Lit × DataW H → Nat
  | (.string bytes, d) => bytes.length + uptoBulk d + 1
  | (_, d) => uptoBulk d + 1
 end
def uptoSmall : (H : Type) → List (DataW H) → Bool := fun _ ds => decide (uptoBulkAll ds ≤ 1048576)
def OpenSpec.upto (s : _root_.Go.ChangeSpec) : _root_.Go.OpenSpec := { _root_.Go.OpenSpec.ofChange s with cond := some uptoSmall }

/-- 'tollgatelaw20.CtlAcks', WHERE WHAT IT READS IS OF BULK AT MOST 1048576: true; the input reads as it did. -/
def ctlAcksUptoRow : OpenClaim := { program := "ytclodmcdimaccaa", sum := "2707bcfef7a33a2912d1a1b350248578a60e36631cde117d4c24722a3d10ff72", func := "tollgate/tollgatelaw20.CtlAcks", spec := "ctlAcks", unfollowed := true, recurses := true, apart := false, narrowed := true }
def CtlAcksUptoSaid : Prop := ctlAcksUptoRow.holds Try.pinned (OpenSpec.upto ctlAcksSpec)

/-- 'tollgatelaw20.CtlGives', WHERE WHAT IT READS IS OF BULK AT MOST 1048576: true; the input reads as it did. -/
def ctlGivesUptoRow : OpenClaim := { program := "ytclodmcdimaccaa", sum := "2707bcfef7a33a2912d1a1b350248578a60e36631cde117d4c24722a3d10ff72", func := "tollgate/tollgatelaw20.CtlGives", spec := "ctlGives", unfollowed := true, recurses := true, apart := false, narrowed := true }
def CtlGivesUptoSaid : Prop := ctlGivesUptoRow.holds Try.pinned (OpenSpec.upto ctlGivesSpec)

/-- 'tollgatelaw20.CtlBrings', WHERE WHAT IT READS IS OF BULK AT MOST 1048576: true; the input reads as it did. -/
def ctlBringsUptoRow : OpenClaim := { program := "ytclodmcdimaccaa", sum := "2707bcfef7a33a2912d1a1b350248578a60e36631cde117d4c24722a3d10ff72", func := "tollgate/tollgatelaw20.CtlBrings", spec := "ctlBrings", unfollowed := true, recurses := true, apart := false, narrowed := true }
def CtlBringsUptoSaid : Prop := ctlBringsUptoRow.holds Try.pinned (OpenSpec.upto ctlBringsSpec)

/-- 'tollgatelaw20.CtlWindow', WHERE WHAT IT READS IS OF BULK AT MOST 1048576: true; the input reads as it did. -/
def ctlWindowUptoRow : OpenClaim := { program := "ytclodmcdimaccaa", sum := "2707bcfef7a33a2912d1a1b350248578a60e36631cde117d4c24722a3d10ff72", func := "tollgate/tollgatelaw20.CtlWindow", spec := "ctlWindow", unfollowed := true, recurses := true, apart := false, narrowed := true }
def CtlWindowUptoSaid : Prop := ctlWindowUptoRow.holds Try.pinned (OpenSpec.upto ctlWindowSpec)

/-- 'tollgatelaw20.CtlFair', WHERE WHAT IT READS IS OF BULK AT MOST 1048576: true; the input reads as it did. -/
def ctlFairUptoRow : OpenClaim := { program := "ytclodmcdimaccaa", sum := "2707bcfef7a33a2912d1a1b350248578a60e36631cde117d4c24722a3d10ff72", func := "tollgate/tollgatelaw20.CtlFair", spec := "ctlFair", unfollowed := true, recurses := true, apart := false, narrowed := true }
def CtlFairUptoSaid : Prop := ctlFairUptoRow.holds Try.pinned (OpenSpec.upto ctlFairSpec)

/-- 'tollgatelaw20.CtlNone', WHERE WHAT IT READS IS OF BULK AT MOST 1048576: true; the input reads as it did. -/
def ctlNoneUptoRow : OpenClaim := { program := "ytclodmcdimaccaa", sum := "2707bcfef7a33a2912d1a1b350248578a60e36631cde117d4c24722a3d10ff72", func := "tollgate/tollgatelaw20.CtlNone", spec := "ctlNone", unfollowed := true, recurses := true, apart := false, narrowed := true }
def CtlNoneUptoSaid : Prop := ctlNoneUptoRow.holds Try.pinned (OpenSpec.upto ctlNoneSpec)

end Rows
end Go.Proofs.Ytclodmcdimaccaa
