/-
  No cell of these rows narrows 'for every input' (looked for: loops, veiled, ifaces, maps, wideKeys, modest, calm, conditions, laid).
  DERIVED. THE GIVEN ROWS OF THIS SEAT. 3 by the template 'for every input the law returns true; each argument reads behind the call as it read before'; 0 by the template 'total and deterministic' (their statements: YtglafpdealjlnaaGreatTotals.lean).
  GIVEN WITH THE SEED: the statements are not yours to turn. If you find one false, say at which input.
  Laid BY PROGRAM, IN A SANDBOX (cutbox-rows.mjs): the forced cells as the released guide's own fill.sh prints them over the translation f76be16607c3b5a2… (all of the seat's roots in one cut). By AI agents, Wed Nov 11 2026. No macro, syntax, notation, axiom, sorry.
-/
import Derived.Test.YtglafpdealjlnaaGreatChecked
import GoSem.Claim
import GoSem.ClaimJoined
import GoSem.ClaimMapViews
import Derived.JoinedTies
import Derived.KernelRfl
namespace Go.Proofs.YtglafpdealjlnaaGreat
/- THE CELL 'sum', in the pinned program and in every row, IS THE sha256 OF THE DUMP (.gsa) THAT YtglafpdealjlnaaGreatProg.lean LOADS. Nothing in Lean hashes anything: it is a label: what it is worth is what the hold of that sum in a sandbox is worth. -/
noncomputable def Tryz.pinned : Pinned := { name := "ytglafpdealjlnaagreat", sum := "f76be16607c3b5a2dcddbe9e58ab3c3592d5cfe0025e5d4f967e7175dda3e453", checked := Tryz.checked }
namespace Rows
def none {H : Type} : Left H := { results := [], args := [] }

/-- 'tollgatelaw19.MsgTells': WHATEVER THE INPUT: true; the input reads as it did. -/
def msgTellsSpec : ChangeSpec := { name := "msgTells", fn := fun _ => fun
  | [d1, d2, d3, d4, d5] => { results := [.lit (.bool true)], args := [d1, d2, d3, d4, d5] }
  | _ => none }
def msgTellsRow : OpenClaim := { program := "ytglafpdealjlnaagreat", sum := "f76be16607c3b5a2dcddbe9e58ab3c3592d5cfe0025e5d4f967e7175dda3e453", func := "tollgate/tollgatelaw19.MsgTells", spec := "msgTells", inPlace := ["internal/abi.NoEscape"], unfollowed := true, recurses := true, plainKeys := false, apart := false }
def MsgTellsSaid : Prop := msgTellsRow.holds Tryz.pinned (OpenSpec.ofChange msgTellsSpec)

/-- ITS FALSE NEIGHBOUR: 'it returns false'. Refute it at one input. -/
def msgTellsWrong : ChangeSpec := { name := "msgTells", fn := fun _ => fun
  | [d1, d2, d3, d4, d5] => { results := [.lit (.bool false)], args := [d1, d2, d3, d4, d5] }
  | _ => none }
def MsgTellsWrongFalsely : Prop := msgTellsRow.holds Tryz.pinned (OpenSpec.ofChange msgTellsWrong)

/-- 'tollgatelaw22.CallPlays': WHATEVER THE INPUT: true; the input reads as it did. -/
def callPlaysSpec : ChangeSpec := { name := "callPlays", fn := fun _ => fun
  | [d1, d2, d3, d4] => { results := [.lit (.bool true)], args := [d1, d2, d3, d4] }
  | _ => none }
def callPlaysRow : OpenClaim := { program := "ytglafpdealjlnaagreat", sum := "f76be16607c3b5a2dcddbe9e58ab3c3592d5cfe0025e5d4f967e7175dda3e453", func := "tollgate/tollgatelaw22.CallPlays", spec := "callPlays", unfollowed := true, recurses := true, plainKeys := false, apart := false }
def CallPlaysSaid : Prop := callPlaysRow.holds Tryz.pinned (OpenSpec.ofChange callPlaysSpec)

/-- ITS FALSE NEIGHBOUR: 'it returns false'. Refute it at one input. -/
def callPlaysWrong : ChangeSpec := { name := "callPlays", fn := fun _ => fun
  | [d1, d2, d3, d4] => { results := [.lit (.bool false)], args := [d1, d2, d3, d4] }
  | _ => none }
def CallPlaysWrongFalsely : Prop := callPlaysRow.holds Tryz.pinned (OpenSpec.ofChange callPlaysWrong)

/-- 'tollgatelaw21.TunnelPlays': WHATEVER THE INPUT: true; the input reads as it did. -/
def tunnelPlaysSpec : ChangeSpec := { name := "tunnelPlays", fn := fun _ => fun
  | [d1, d2, d3, d4] => { results := [.lit (.bool true)], args := [d1, d2, d3, d4] }
  | _ => none }
def tunnelPlaysRow : OpenClaim := { program := "ytglafpdealjlnaagreat", sum := "f76be16607c3b5a2dcddbe9e58ab3c3592d5cfe0025e5d4f967e7175dda3e453", func := "tollgate/tollgatelaw21.TunnelPlays", spec := "tunnelPlays", inPlace := ["internal/abi.NoEscape"], unfollowed := true, recurses := true, plainKeys := false, apart := false }
def TunnelPlaysSaid : Prop := tunnelPlaysRow.holds Tryz.pinned (OpenSpec.ofChange tunnelPlaysSpec)

/-- ITS FALSE NEIGHBOUR: 'it returns false'. Refute it at one input. -/
def tunnelPlaysWrong : ChangeSpec := { name := "tunnelPlays", fn := fun _ => fun
  | [d1, d2, d3, d4] => { results := [.lit (.bool false)], args := [d1, d2, d3, d4] }
  | _ => none }
def TunnelPlaysWrongFalsely : Prop := tunnelPlaysRow.holds Tryz.pinned (OpenSpec.ofChange tunnelPlaysWrong)

/- THE SECOND FORM. 'bulk': how many values and letters a reading holds, each counted each time it is reached (what is shared counts as often as it is met; a slice's spare places count too). A statement '..UptoSaid' is the law's where the arguments, and the package variables that the reading takes, are together of bulk at most 1048576: NARROWER than '..Said'. Prove '..Said' where nothing that the law and all that it calls make is longer than what came in: it says more and counts as full. Else prove '..UptoSaid'. A law counts once. -/
mutual
def uptoBulk {H : Type} : DataW H → Nat
  | .lit (.string bytes) => bytes.length + 1
  | .lit _ => 1
  | .nil => 1
  | .ptr d => uptoBulk d + 1
  | .slice elems spare => uptoBulkAll elems + uptoBulkAll spare + 1
  | .agg parts => uptoBulkAll parts + 1
  | .iface _ d => uptoBulk d + 1
  | .map entries => uptoBulkEntries entries + 1
  | .held _ => 1
def uptoBulkAll {H : Type} : List (DataW H) → Nat
  | [] => 0
  | d :: r => uptoBulk d + uptoBulkAll r
def uptoBulkEntries {H : Type} : List (Lit × DataW H) → Nat
  | [] => 0
  | x :: r => uptoBulkEntry x + uptoBulkEntries r
def uptoBulkEntry {H : Type} : Lit × DataW H → Nat
  | (.string bytes, d) => bytes.length + uptoBulk d + 1
  | (_, d) => uptoBulk d + 1
 end
def uptoSmall : (H : Type) → List (DataW H) → Bool := fun _ ds => decide (uptoBulkAll ds ≤ 1048576)
def OpenSpec.upto (s : _root_.Go.ChangeSpec) : _root_.Go.OpenSpec := { _root_.Go.OpenSpec.ofChange s with cond := some uptoSmall }

/-- 'tollgatelaw19.MsgTells', WHERE WHAT IT READS IS OF BULK AT MOST 1048576: true; the input reads as it did. -/
def msgTellsUptoRow : OpenClaim := { program := "ytglafpdealjlnaagreat", sum := "f76be16607c3b5a2dcddbe9e58ab3c3592d5cfe0025e5d4f967e7175dda3e453", func := "tollgate/tollgatelaw19.MsgTells", spec := "msgTells", inPlace := ["internal/abi.NoEscape"], unfollowed := true, recurses := true, plainKeys := false, apart := false, narrowed := true }
def MsgTellsUptoSaid : Prop := msgTellsUptoRow.holds Tryz.pinned (OpenSpec.upto msgTellsSpec)

/-- 'tollgatelaw22.CallPlays', WHERE WHAT IT READS IS OF BULK AT MOST 1048576: true; the input reads as it did. -/
def callPlaysUptoRow : OpenClaim := { program := "ytglafpdealjlnaagreat", sum := "f76be16607c3b5a2dcddbe9e58ab3c3592d5cfe0025e5d4f967e7175dda3e453", func := "tollgate/tollgatelaw22.CallPlays", spec := "callPlays", unfollowed := true, recurses := true, plainKeys := false, apart := false, narrowed := true }
def CallPlaysUptoSaid : Prop := callPlaysUptoRow.holds Tryz.pinned (OpenSpec.upto callPlaysSpec)

/-- 'tollgatelaw21.TunnelPlays', WHERE WHAT IT READS IS OF BULK AT MOST 1048576: true; the input reads as it did. -/
def tunnelPlaysUptoRow : OpenClaim := { program := "ytglafpdealjlnaagreat", sum := "f76be16607c3b5a2dcddbe9e58ab3c3592d5cfe0025e5d4f967e7175dda3e453", func := "tollgate/tollgatelaw21.TunnelPlays", spec := "tunnelPlays", inPlace := ["internal/abi.NoEscape"], unfollowed := true, recurses := true, plainKeys := false, apart := false, narrowed := true }
def TunnelPlaysUptoSaid : Prop := tunnelPlaysUptoRow.holds Tryz.pinned (OpenSpec.upto tunnelPlaysSpec)

end Rows
end Go.Proofs.YtglafpdealjlnaaGreat
