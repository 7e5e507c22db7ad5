/-
  No cell of these rows narrows 'for every input' (looked for: loops, veiled, ifaces, maps, wideKeys, modest, calm, conditions, laid).
  DERIVED. THE GIVEN ROWS OF THIS SEAT. 7 by the template 'for every input the law returns true; each argument reads behind the call as it read before'; 0 by the template 'total and deterministic' (their statements: YtolfjfkkbhbbbaaGreatTotals.lean).
  GIVEN WITH THE SEED: the statements are not yours to turn. If you find one false, say at which input.
  Laid BY PROGRAM, IN A SANDBOX (cutbox-rows.mjs): the forced cells as the released guide's own fill.sh prints them over the translation 72ea0dac8997403a… (all of the seat's roots in one cut). By AI agents, Wed Nov 11 2026. No macro, syntax, notation, axiom, sorry.
-/
import Derived.Test.YtolfjfkkbhbbbaaGreatChecked
import GoSem.Claim
import GoSem.ClaimJoined
import GoSem.ClaimMapViews
import Derived.JoinedTies
import Derived.KernelRfl
namespace Go.Proofs.YtolfjfkkbhbbbaaGreat
/- THE CELL 'sum', in the pinned program and in every row, IS THE sha256 OF THE DUMP (.gsa) THAT YtolfjfkkbhbbbaaGreatProg.lean LOADS. Nothing in Lean hashes anything: it is a label: what it is worth is what the hold of that sum in a sandbox is worth. -/
noncomputable def Tryz.pinned : Pinned := { name := "ytolfjfkkbhbbbaagreat", sum := "72ea0dac8997403ab8d209af8aa1b4cb1757463198afcc9c76b15df42aa6dca1", checked := Tryz.checked }
namespace Rows
def none {H : Type} : Left H := { results := [], args := [] }

/-- 'tollgatelaw21.TunnelMeets': WHATEVER THE INPUT: true; the input reads as it did. -/
def tunnelMeetsSpec : ChangeSpec := { name := "tunnelMeets", fn := fun _ => fun
  | [d1, d2] => { results := [.lit (.bool true)], args := [d1, d2] }
  | _ => none }
def tunnelMeetsRow : OpenClaim := { program := "ytolfjfkkbhbbbaagreat", sum := "72ea0dac8997403ab8d209af8aa1b4cb1757463198afcc9c76b15df42aa6dca1", func := "tollgate/tollgatelaw21.TunnelMeets", spec := "tunnelMeets", inPlace := ["internal/abi.NoEscape"], unfollowed := true, recurses := true, plainKeys := false, apart := false }
def TunnelMeetsSaid : Prop := tunnelMeetsRow.holds Tryz.pinned (OpenSpec.ofChange tunnelMeetsSpec)

/-- ITS FALSE NEIGHBOUR: 'it returns false'. Refute it at one input. -/
def tunnelMeetsWrong : ChangeSpec := { name := "tunnelMeets", fn := fun _ => fun
  | [d1, d2] => { results := [.lit (.bool false)], args := [d1, d2] }
  | _ => none }
def TunnelMeetsWrongFalsely : Prop := tunnelMeetsRow.holds Tryz.pinned (OpenSpec.ofChange tunnelMeetsWrong)

/-- 'tollgatelaw21.TunnelBoth': WHATEVER THE INPUT: true; the input reads as it did. -/
def tunnelBothSpec : ChangeSpec := { name := "tunnelBoth", fn := fun _ => fun
  | [d1, d2] => { results := [.lit (.bool true)], args := [d1, d2] }
  | _ => none }
def tunnelBothRow : OpenClaim := { program := "ytolfjfkkbhbbbaagreat", sum := "72ea0dac8997403ab8d209af8aa1b4cb1757463198afcc9c76b15df42aa6dca1", func := "tollgate/tollgatelaw21.TunnelBoth", spec := "tunnelBoth", inPlace := ["internal/abi.NoEscape"], unfollowed := true, recurses := true, plainKeys := false, apart := false }
def TunnelBothSaid : Prop := tunnelBothRow.holds Tryz.pinned (OpenSpec.ofChange tunnelBothSpec)

/-- ITS FALSE NEIGHBOUR: 'it returns false'. Refute it at one input. -/
def tunnelBothWrong : ChangeSpec := { name := "tunnelBoth", fn := fun _ => fun
  | [d1, d2] => { results := [.lit (.bool false)], args := [d1, d2] }
  | _ => none }
def TunnelBothWrongFalsely : Prop := tunnelBothRow.holds Tryz.pinned (OpenSpec.ofChange tunnelBothWrong)

/-- 'tollgatelaw21.TunnelCarries': WHATEVER THE INPUT: true; the input reads as it did. -/
def tunnelCarriesSpec : ChangeSpec := { name := "tunnelCarries", fn := fun _ => fun
  | [d1, d2] => { results := [.lit (.bool true)], args := [d1, d2] }
  | _ => none }
def tunnelCarriesRow : OpenClaim := { program := "ytolfjfkkbhbbbaagreat", sum := "72ea0dac8997403ab8d209af8aa1b4cb1757463198afcc9c76b15df42aa6dca1", func := "tollgate/tollgatelaw21.TunnelCarries", spec := "tunnelCarries", inPlace := ["internal/abi.NoEscape"], unfollowed := true, recurses := true, plainKeys := false, apart := false }
def TunnelCarriesSaid : Prop := tunnelCarriesRow.holds Tryz.pinned (OpenSpec.ofChange tunnelCarriesSpec)

/-- ITS FALSE NEIGHBOUR: 'it returns false'. Refute it at one input. -/
def tunnelCarriesWrong : ChangeSpec := { name := "tunnelCarries", fn := fun _ => fun
  | [d1, d2] => { results := [.lit (.bool false)], args := [d1, d2] }
  | _ => none }
def TunnelCarriesWrongFalsely : Prop := tunnelCarriesRow.holds Tryz.pinned (OpenSpec.ofChange tunnelCarriesWrong)

/-- 'tollgatelaw21.TunnelStrange': WHATEVER THE INPUT: true; the input reads as it did. -/
def tunnelStrangeSpec : ChangeSpec := { name := "tunnelStrange", fn := fun _ => fun
  | [d1, d2, d3] => { results := [.lit (.bool true)], args := [d1, d2, d3] }
  | _ => none }
def tunnelStrangeRow : OpenClaim := { program := "ytolfjfkkbhbbbaagreat", sum := "72ea0dac8997403ab8d209af8aa1b4cb1757463198afcc9c76b15df42aa6dca1", func := "tollgate/tollgatelaw21.TunnelStrange", spec := "tunnelStrange", inPlace := ["internal/abi.NoEscape"], unfollowed := true, recurses := true, plainKeys := false, apart := false }
def TunnelStrangeSaid : Prop := tunnelStrangeRow.holds Tryz.pinned (OpenSpec.ofChange tunnelStrangeSpec)

/-- ITS FALSE NEIGHBOUR: 'it returns false'. Refute it at one input. -/
def tunnelStrangeWrong : ChangeSpec := { name := "tunnelStrange", fn := fun _ => fun
  | [d1, d2, d3] => { results := [.lit (.bool false)], args := [d1, d2, d3] }
  | _ => none }
def TunnelStrangeWrongFalsely : Prop := tunnelStrangeRow.holds Tryz.pinned (OpenSpec.ofChange tunnelStrangeWrong)

/-- 'tollgatelaw21.TunnelHellos': WHATEVER THE INPUT: true; the input reads as it did. -/
def tunnelHellosSpec : ChangeSpec := { name := "tunnelHellos", fn := fun _ => fun
  | [d1, d2] => { results := [.lit (.bool true)], args := [d1, d2] }
  | _ => none }
def tunnelHellosRow : OpenClaim := { program := "ytolfjfkkbhbbbaagreat", sum := "72ea0dac8997403ab8d209af8aa1b4cb1757463198afcc9c76b15df42aa6dca1", func := "tollgate/tollgatelaw21.TunnelHellos", spec := "tunnelHellos", inPlace := ["internal/abi.NoEscape"], unfollowed := true, recurses := true, plainKeys := false, apart := false }
def TunnelHellosSaid : Prop := tunnelHellosRow.holds Tryz.pinned (OpenSpec.ofChange tunnelHellosSpec)

/-- ITS FALSE NEIGHBOUR: 'it returns false'. Refute it at one input. -/
def tunnelHellosWrong : ChangeSpec := { name := "tunnelHellos", fn := fun _ => fun
  | [d1, d2] => { results := [.lit (.bool false)], args := [d1, d2] }
  | _ => none }
def TunnelHellosWrongFalsely : Prop := tunnelHellosRow.holds Tryz.pinned (OpenSpec.ofChange tunnelHellosWrong)

/-- 'tollgatelaw21.TunnelEnds': WHATEVER THE INPUT: true; the input reads as it did. -/
def tunnelEndsSpec : ChangeSpec := { name := "tunnelEnds", fn := fun _ => fun
  | [d1, d2] => { results := [.lit (.bool true)], args := [d1, d2] }
  | _ => none }
def tunnelEndsRow : OpenClaim := { program := "ytolfjfkkbhbbbaagreat", sum := "72ea0dac8997403ab8d209af8aa1b4cb1757463198afcc9c76b15df42aa6dca1", func := "tollgate/tollgatelaw21.TunnelEnds", spec := "tunnelEnds", inPlace := ["internal/abi.NoEscape"], unfollowed := true, recurses := true, plainKeys := false, apart := false }
def TunnelEndsSaid : Prop := tunnelEndsRow.holds Tryz.pinned (OpenSpec.ofChange tunnelEndsSpec)

/-- ITS FALSE NEIGHBOUR: 'it returns false'. Refute it at one input. -/
def tunnelEndsWrong : ChangeSpec := { name := "tunnelEnds", fn := fun _ => fun
  | [d1, d2] => { results := [.lit (.bool false)], args := [d1, d2] }
  | _ => none }
def TunnelEndsWrongFalsely : Prop := tunnelEndsRow.holds Tryz.pinned (OpenSpec.ofChange tunnelEndsWrong)

/-- 'tollgatelaw21.TunnelNone': WHATEVER THE INPUT: true; the input reads as it did. -/
def tunnelNoneSpec : ChangeSpec := { name := "tunnelNone", fn := fun _ => fun
  | [d1, d2] => { results := [.lit (.bool true)], args := [d1, d2] }
  | _ => none }
def tunnelNoneRow : OpenClaim := { program := "ytolfjfkkbhbbbaagreat", sum := "72ea0dac8997403ab8d209af8aa1b4cb1757463198afcc9c76b15df42aa6dca1", func := "tollgate/tollgatelaw21.TunnelNone", spec := "tunnelNone", inPlace := ["internal/abi.NoEscape"], unfollowed := true, recurses := true, plainKeys := false, apart := false }
def TunnelNoneSaid : Prop := tunnelNoneRow.holds Tryz.pinned (OpenSpec.ofChange tunnelNoneSpec)

/-- ITS FALSE NEIGHBOUR: 'it returns false'. Refute it at one input. -/
def tunnelNoneWrong : ChangeSpec := { name := "tunnelNone", fn := fun _ => fun
  | [d1, d2] => { results := [.lit (.bool false)], args := [d1, d2] }
  | _ => none }
def TunnelNoneWrongFalsely : Prop := tunnelNoneRow.holds Tryz.pinned (OpenSpec.ofChange tunnelNoneWrong)

/- THE SECOND FORM. 'bulk': how many values and letters a reading holds, each counted each time it is reached (what is shared counts as often as it is met; a slice's spare places count too). A statement '..UptoSaid' is the law's where the arguments, and the package variables that the reading takes, are together of bulk at most 1048576: NARROWER than '..Said'. Prove '..Said' where nothing that the law and all that it calls make is longer than what came in: it says more and counts as full. Else prove '..UptoSaid'. A law counts once. -/
mutual
def uptoBulk {H : Type} : DataW H → Nat
  | .lit (.string bytes) => bytes.length + 1
  | .lit _ => 1
  | .nil => 1
  | .ptr d => uptoBulk d + 1
  | .slice elems spare => uptoBulkAll elems + uptoBulkAll spare + 1
  | .agg parts => uptoBulkAll parts + 1
  | .iface _ d => uptoBulk d + 1
  | .map entries => uptoBulkEntries entries + 1
  | .held _ => 1
def uptoBulkAll {H : Type} : List (DataW H) → Nat
  | [] => 0
  | d :: r => uptoBulk d + uptoBulkAll r
def uptoBulkEntries {H : Type} : List (Lit × DataW H) → Nat
  | [] => 0
  | x :: r => uptoBulkEntry x + uptoBulkEntries r
def uptoBulkEntry {H : Type} : Lit × DataW H → Nat
  | (.string bytes, d) => bytes.length + uptoBulk d + 1
  | (_, d) => uptoBulk d + 1
 end
def uptoSmall : (H : Type) → List (DataW H) → Bool := fun _ ds => decide (uptoBulkAll ds ≤ 1048576)
def OpenSpec.upto (s : _root_.Go.ChangeSpec) : _root_.Go.OpenSpec := { _root_.Go.OpenSpec.ofChange s with cond := some uptoSmall }

/-- 'tollgatelaw21.TunnelMeets', WHERE WHAT IT READS IS OF BULK AT MOST 1048576: true; the input reads as it did. -/
def tunnelMeetsUptoRow : OpenClaim := { program := "ytolfjfkkbhbbbaagreat", sum := "72ea0dac8997403ab8d209af8aa1b4cb1757463198afcc9c76b15df42aa6dca1", func := "tollgate/tollgatelaw21.TunnelMeets", spec := "tunnelMeets", inPlace := ["internal/abi.NoEscape"], unfollowed := true, recurses := true, plainKeys := false, apart := false, narrowed := true }
def TunnelMeetsUptoSaid : Prop := tunnelMeetsUptoRow.holds Tryz.pinned (OpenSpec.upto tunnelMeetsSpec)

/-- 'tollgatelaw21.TunnelBoth', WHERE WHAT IT READS IS OF BULK AT MOST 1048576: true; the input reads as it did. -/
def tunnelBothUptoRow : OpenClaim := { program := "ytolfjfkkbhbbbaagreat", sum := "72ea0dac8997403ab8d209af8aa1b4cb1757463198afcc9c76b15df42aa6dca1", func := "tollgate/tollgatelaw21.TunnelBoth", spec := "tunnelBoth", inPlace := ["internal/abi.NoEscape"], unfollowed := true, recurses := true, plainKeys := false, apart := false, narrowed := true }
def TunnelBothUptoSaid : Prop := tunnelBothUptoRow.holds Tryz.pinned (OpenSpec.upto tunnelBothSpec)

/-- 'tollgatelaw21.TunnelCarries', WHERE WHAT IT READS IS OF BULK AT MOST 1048576: true; the input reads as it did. -/
def tunnelCarriesUptoRow : OpenClaim := { program := "ytolfjfkkbhbbbaagreat", sum := "72ea0dac8997403ab8d209af8aa1b4cb1757463198afcc9c76b15df42aa6dca1", func := "tollgate/tollgatelaw21.TunnelCarries", spec := "tunnelCarries", inPlace := ["internal/abi.NoEscape"], unfollowed := true, recurses := true, plainKeys := false, apart := false, narrowed := true }
def TunnelCarriesUptoSaid : Prop := tunnelCarriesUptoRow.holds Tryz.pinned (OpenSpec.upto tunnelCarriesSpec)

/-- 'tollgatelaw21.TunnelStrange', WHERE WHAT IT READS IS OF BULK AT MOST 1048576: true; the input reads as it did. -/
def tunnelStrangeUptoRow : OpenClaim := { program := "ytolfjfkkbhbbbaagreat", sum := "72ea0dac8997403ab8d209af8aa1b4cb1757463198afcc9c76b15df42aa6dca1", func := "tollgate/tollgatelaw21.TunnelStrange", spec := "tunnelStrange", inPlace := ["internal/abi.NoEscape"], unfollowed := true, recurses := true, plainKeys := false, apart := false, narrowed := true }
def TunnelStrangeUptoSaid : Prop := tunnelStrangeUptoRow.holds Tryz.pinned (OpenSpec.upto tunnelStrangeSpec)

/-- 'tollgatelaw21.TunnelHellos', WHERE WHAT IT READS IS OF BULK AT MOST 1048576: true; the input reads as it did. -/
def tunnelHellosUptoRow : OpenClaim := { program := "ytolfjfkkbhbbbaagreat", sum := "72ea0dac8997403ab8d209af8aa1b4cb1757463198afcc9c76b15df42aa6dca1", func := "tollgate/tollgatelaw21.TunnelHellos", spec := "tunnelHellos", inPlace := ["internal/abi.NoEscape"], unfollowed := true, recurses := true, plainKeys := false, apart := false, narrowed := true }
def TunnelHellosUptoSaid : Prop := tunnelHellosUptoRow.holds Tryz.pinned (OpenSpec.upto tunnelHellosSpec)

/-- 'tollgatelaw21.TunnelEnds', WHERE WHAT IT READS IS OF BULK AT MOST 1048576: true; the input reads as it did. -/
def tunnelEndsUptoRow : OpenClaim := { program := "ytolfjfkkbhbbbaagreat", sum := "72ea0dac8997403ab8d209af8aa1b4cb1757463198afcc9c76b15df42aa6dca1", func := "tollgate/tollgatelaw21.TunnelEnds", spec := "tunnelEnds", inPlace := ["internal/abi.NoEscape"], unfollowed := true, recurses := true, plainKeys := false, apart := false, narrowed := true }
def TunnelEndsUptoSaid : Prop := tunnelEndsUptoRow.holds Tryz.pinned (OpenSpec.upto tunnelEndsSpec)

/-- 'tollgatelaw21.TunnelNone', WHERE WHAT IT READS IS OF BULK AT MOST 1048576: true; the input reads as it did. -/
def tunnelNoneUptoRow : OpenClaim := { program := "ytolfjfkkbhbbbaagreat", sum := "72ea0dac8997403ab8d209af8aa1b4cb1757463198afcc9c76b15df42aa6dca1", func := "tollgate/tollgatelaw21.TunnelNone", spec := "tunnelNone", inPlace := ["internal/abi.NoEscape"], unfollowed := true, recurses := true, plainKeys := false, apart := false, narrowed := true }
def TunnelNoneUptoSaid : Prop := tunnelNoneUptoRow.holds Tryz.pinned (OpenSpec.upto tunnelNoneSpec)

end Rows
end Go.Proofs.YtolfjfkkbhbbbaaGreat
