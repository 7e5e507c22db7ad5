/-
  No cell of these rows narrows 'for every input' (looked for: loops, veiled, ifaces, maps, wideKeys, modest, calm, conditions, laid).
  DERIVED. THE GIVEN ROWS OF THIS SEAT. 5 by the template 'for every input the law returns true; each argument reads behind the call as it read before'; 0 by the template 'total and deterministic' (their statements: YtihedbaomingpaaTotals.lean).
  GIVEN WITH THE SEED: the statements are not yours to turn. If you find one false, say at which input.
  Laid BY PROGRAM, IN A SANDBOX (cutbox-rows.mjs): the forced cells as the released guide's own fill.sh prints them over the translation ec52e2ff1e990047… (all of the seat's roots in one cut). By AI agents, Wed Nov 11 2026. No macro, syntax, notation, axiom, sorry.
-/
import Derived.Test.YtihedbaomingpaaChecked
import GoSem.Claim
import GoSem.ClaimJoined
import GoSem.ClaimMapViews
import Derived.JoinedTies
import Derived.KernelRfl
namespace Go.Proofs.Ytihedbaomingpaa
/- THE CELL 'sum', in the pinned program and in every row, IS THE sha256 OF THE DUMP (.gsa) THAT YtihedbaomingpaaProg.lean LOADS. Nothing in Lean hashes anything: it is a label: what it is worth is what the hold of that sum in a sandbox is worth. -/
noncomputable def Try.pinned : Pinned := { name := "ytihedbaomingpaa", sum := "ec52e2ff1e99004752d3c33115e6803ea5468328960f059d182d37d9efd5f074", checked := Try.checked }
namespace Rows
def none {H : Type} : Left H := { results := [], args := [] }

/-- 'tollgatelaw22.CallFaulty': WHATEVER THE INPUT: true; the input reads as it did. -/
def callFaultySpec : ChangeSpec := { name := "callFaulty", fn := fun _ => fun
  | [d1, d2, d3] => { results := [.lit (.bool true)], args := [d1, d2, d3] }
  | _ => none }
def callFaultyRow : OpenClaim := { program := "ytihedbaomingpaa", sum := "ec52e2ff1e99004752d3c33115e6803ea5468328960f059d182d37d9efd5f074", func := "tollgate/tollgatelaw22.CallFaulty", spec := "callFaulty", unfollowed := true, recurses := true, plainKeys := false, apart := false }
def CallFaultySaid : Prop := callFaultyRow.holds Try.pinned (OpenSpec.ofChange callFaultySpec)

/-- ITS FALSE NEIGHBOUR: 'it returns false'. Refute it at one input. -/
def callFaultyWrong : ChangeSpec := { name := "callFaulty", fn := fun _ => fun
  | [d1, d2, d3] => { results := [.lit (.bool false)], args := [d1, d2, d3] }
  | _ => none }
def CallFaultyWrongFalsely : Prop := callFaultyRow.holds Try.pinned (OpenSpec.ofChange callFaultyWrong)

/-- 'tollgatelaw22.CallEnds': WHATEVER THE INPUT: true; the input reads as it did. -/
def callEndsSpec : ChangeSpec := { name := "callEnds", fn := fun _ => fun
  | [d1, d2, d3, d4] => { results := [.lit (.bool true)], args := [d1, d2, d3, d4] }
  | _ => none }
def callEndsRow : OpenClaim := { program := "ytihedbaomingpaa", sum := "ec52e2ff1e99004752d3c33115e6803ea5468328960f059d182d37d9efd5f074", func := "tollgate/tollgatelaw22.CallEnds", spec := "callEnds", unfollowed := true, recurses := true, plainKeys := false, apart := false }
def CallEndsSaid : Prop := callEndsRow.holds Try.pinned (OpenSpec.ofChange callEndsSpec)

/-- ITS FALSE NEIGHBOUR: 'it returns false'. Refute it at one input. -/
def callEndsWrong : ChangeSpec := { name := "callEnds", fn := fun _ => fun
  | [d1, d2, d3, d4] => { results := [.lit (.bool false)], args := [d1, d2, d3, d4] }
  | _ => none }
def CallEndsWrongFalsely : Prop := callEndsRow.holds Try.pinned (OpenSpec.ofChange callEndsWrong)

/-- 'tollgatelaw22.CallTells': WHATEVER THE INPUT: true; the input reads as it did. -/
def callTellsSpec : ChangeSpec := { name := "callTells", fn := fun _ => fun
  | [d1, d2, d3, d4] => { results := [.lit (.bool true)], args := [d1, d2, d3, d4] }
  | _ => none }
def callTellsRow : OpenClaim := { program := "ytihedbaomingpaa", sum := "ec52e2ff1e99004752d3c33115e6803ea5468328960f059d182d37d9efd5f074", func := "tollgate/tollgatelaw22.CallTells", spec := "callTells", unfollowed := true, recurses := true, plainKeys := false, apart := false }
def CallTellsSaid : Prop := callTellsRow.holds Try.pinned (OpenSpec.ofChange callTellsSpec)

/-- ITS FALSE NEIGHBOUR: 'it returns false'. Refute it at one input. -/
def callTellsWrong : ChangeSpec := { name := "callTells", fn := fun _ => fun
  | [d1, d2, d3, d4] => { results := [.lit (.bool false)], args := [d1, d2, d3, d4] }
  | _ => none }
def CallTellsWrongFalsely : Prop := callTellsRow.holds Try.pinned (OpenSpec.ofChange callTellsWrong)

/-- 'tollgatelaw22.CallMeets': WHATEVER THE INPUT: true; the input reads as it did. -/
def callMeetsSpec : ChangeSpec := { name := "callMeets", fn := fun _ => fun
  | [d1, d2, d3, d4] => { results := [.lit (.bool true)], args := [d1, d2, d3, d4] }
  | _ => none }
def callMeetsRow : OpenClaim := { program := "ytihedbaomingpaa", sum := "ec52e2ff1e99004752d3c33115e6803ea5468328960f059d182d37d9efd5f074", func := "tollgate/tollgatelaw22.CallMeets", spec := "callMeets", unfollowed := true, recurses := true, plainKeys := false, apart := false }
def CallMeetsSaid : Prop := callMeetsRow.holds Try.pinned (OpenSpec.ofChange callMeetsSpec)

/-- ITS FALSE NEIGHBOUR: 'it returns false'. Refute it at one input. -/
def callMeetsWrong : ChangeSpec := { name := "callMeets", fn := fun _ => fun
  | [d1, d2, d3, d4] => { results := [.lit (.bool false)], args := [d1, d2, d3, d4] }
  | _ => none }
def CallMeetsWrongFalsely : Prop := callMeetsRow.holds Try.pinned (OpenSpec.ofChange callMeetsWrong)

/-- 'tollgatelaw22.CallNone': WHATEVER THE INPUT: true; the input reads as it did. -/
def callNoneSpec : ChangeSpec := { name := "callNone", fn := fun _ => fun
  | [d1, d2] => { results := [.lit (.bool true)], args := [d1, d2] }
  | _ => none }
def callNoneRow : OpenClaim := { program := "ytihedbaomingpaa", sum := "ec52e2ff1e99004752d3c33115e6803ea5468328960f059d182d37d9efd5f074", func := "tollgate/tollgatelaw22.CallNone", spec := "callNone", unfollowed := true, recurses := true, plainKeys := false, apart := false }
def CallNoneSaid : Prop := callNoneRow.holds Try.pinned (OpenSpec.ofChange callNoneSpec)

/-- ITS FALSE NEIGHBOUR: 'it returns false'. Refute it at one input. -/
def callNoneWrong : ChangeSpec := { name := "callNone", fn := fun _ => fun
  | [d1, d2] => { results := [.lit (.bool false)], args := [d1, d2] }
  | _ => none }
def CallNoneWrongFalsely : Prop := callNoneRow.holds Try.pinned (OpenSpec.ofChange callNoneWrong)

/- THE SECOND FORM. 'bulk': how many values and letters a reading holds, each counted each time it is reached (what is shared counts as often as it is met; a slice's spare places count too). A statement '..UptoSaid' is the law's where the arguments, and the package variables that the reading takes, are together of bulk at most 1048576: NARROWER than '..Said'. Prove '..Said' where nothing that the law and all that it calls make is longer than what came in: it says more and counts as full. Else prove '..UptoSaid'. A law counts once. -/
mutual
def uptoBulk {H : Type} : DataW H → Nat
  | .lit (.string bytes) => bytes.length + 1
  | .lit _ => 1
  | .nil => 1
  | .ptr d => uptoBulk d + 1
  | .slice elems spare => uptoBulkAll elems + uptoBulkAll spare + 1
  | .agg parts => uptoBulkAll parts + 1
  | .iface _ d => uptoBulk d + 1
  | .map entries => uptoBulkEntries entries + 1
  | .held _ => 1
def uptoBulkAll {H : Type} : List (DataW H) → Nat
  | [] => 0
  | d :: r => uptoBulk d + uptoBulkAll r
def uptoBulkEntries {H : Type} : List (Lit × DataW H) → Nat
  | [] => 0
  | x :: r => uptoBulkEntry x + uptoBulkEntries r
def uptoBulkEntry {H : Type} : Lit × DataW H → Nat
  | (.string bytes, d) => bytes.length + uptoBulk d + 1
  | (_, d) => uptoBulk d + 1
 end
def uptoSmall : (H : Type) → List (DataW H) → Bool := fun _ ds => decide (uptoBulkAll ds ≤ 1048576)
def OpenSpec.upto (s : _root_.Go.ChangeSpec) : _root_.Go.OpenSpec := { _root_.Go.OpenSpec.ofChange s with cond := some uptoSmall }

/-- 'tollgatelaw22.CallFaulty', WHERE WHAT IT READS IS OF BULK AT MOST 1048576: true; the input reads as it did. -/
def callFaultyUptoRow : OpenClaim := { program := "ytihedbaomingpaa", sum := "ec52e2ff1e99004752d3c33115e6803ea5468328960f059d182d37d9efd5f074", func := "tollgate/tollgatelaw22.CallFaulty", spec := "callFaulty", unfollowed := true, recurses := true, plainKeys := false, apart := false, narrowed := true }
def CallFaultyUptoSaid : Prop := callFaultyUptoRow.holds Try.pinned (OpenSpec.upto callFaultySpec)

/-- 'tollgatelaw22.CallEnds', WHERE WHAT IT READS IS OF BULK AT MOST 1048576: true; the input reads as it did. -/
def callEndsUptoRow : OpenClaim := { program := "ytihedbaomingpaa", sum := "ec52e2ff1e99004752d3c33115e6803ea5468328960f059d182d37d9efd5f074", func := "tollgate/tollgatelaw22.CallEnds", spec := "callEnds", unfollowed := true, recurses := true, plainKeys := false, apart := false, narrowed := true }
def CallEndsUptoSaid : Prop := callEndsUptoRow.holds Try.pinned (OpenSpec.upto callEndsSpec)

/-- 'tollgatelaw22.CallTells', WHERE WHAT IT READS IS OF BULK AT MOST 1048576: true; the input reads as it did. -/
def callTellsUptoRow : OpenClaim := { program := "ytihedbaomingpaa", sum := "ec52e2ff1e99004752d3c33115e6803ea5468328960f059d182d37d9efd5f074", func := "tollgate/tollgatelaw22.CallTells", spec := "callTells", unfollowed := true, recurses := true, plainKeys := false, apart := false, narrowed := true }
def CallTellsUptoSaid : Prop := callTellsUptoRow.holds Try.pinned (OpenSpec.upto callTellsSpec)

/-- 'tollgatelaw22.CallMeets', WHERE WHAT IT READS IS OF BULK AT MOST 1048576: true; the input reads as it did. -/
def callMeetsUptoRow : OpenClaim := { program := "ytihedbaomingpaa", sum := "ec52e2ff1e99004752d3c33115e6803ea5468328960f059d182d37d9efd5f074", func := "tollgate/tollgatelaw22.CallMeets", spec := "callMeets", unfollowed := true, recurses := true, plainKeys := false, apart := false, narrowed := true }
def CallMeetsUptoSaid : Prop := callMeetsUptoRow.holds Try.pinned (OpenSpec.upto callMeetsSpec)

/-- 'tollgatelaw22.CallNone', WHERE WHAT IT READS IS OF BULK AT MOST 1048576: true; the input reads as it did. -/
def callNoneUptoRow : OpenClaim := { program := "ytihedbaomingpaa", sum := "ec52e2ff1e99004752d3c33115e6803ea5468328960f059d182d37d9efd5f074", func := "tollgate/tollgatelaw22.CallNone", spec := "callNone", unfollowed := true, recurses := true, plainKeys := false, apart := false, narrowed := true }
def CallNoneUptoSaid : Prop := callNoneUptoRow.holds Try.pinned (OpenSpec.upto callNoneSpec)

end Rows
end Go.Proofs.Ytihedbaomingpaa
