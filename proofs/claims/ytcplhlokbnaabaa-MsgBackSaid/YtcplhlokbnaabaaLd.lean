/- Plain: data messages. No program in sight. -/
import Derived.Test.YtcplhlokbnaabaaBytes
namespace Go.Proofs.Ytcplhlokbnaabaa
open Go.RowKit
structure Ld where
  tunnel : Int
  session : Int
  seq : Bool
  ns : Int
  nr : Int
  data : ByteArray
def Ld.agg (l : Ld) : Value := .agg #[.int .i64 l.tunnel, .int .i64 l.session, .bool l.seq, .int .i64 l.ns, .int .i64 l.nr, .string l.data]
def Ld.zero : Ld := ⟨0, 0, false, 0, 0, ⟨#[]⟩⟩
end Go.Proofs.Ytcplhlokbnaabaa
