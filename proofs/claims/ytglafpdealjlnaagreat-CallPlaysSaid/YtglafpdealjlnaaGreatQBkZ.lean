/- A book of which nothing was asked: all its lists are nil. -/
import Derived.Test.YtglafpdealjlnaaGreatProg
import Derived.Laws.Tables
import Derived.Test.YtglafpdealjlnaaGreatQLib
namespace Go.Proofs.YtglafpdealjlnaaGreat
open Go.RowKit
set_option maxRecDepth 100000

def bkZ : Array Value := #[.slice none 0 0, .slice none 0 0, .slice none 0 0, .slice none 0 0, .slice none 0 0, .slice none 0 0, .slice none 0 0, .slice none 0 0, .slice none 0 0, .slice none 0 0, .slice none 0 0, .slice none 0 0, .slice none 0 0, .slice none 0 0, .slice none 0 0, .slice none 0 0, .slice none 0 0, .slice none 0 0, .slice none 0 0, .slice none 0 0, .slice none 0 0, .slice none 0 0, .slice none 0 0, .slice none 0 0, .slice none 0 0, .slice none 0 0, .slice none 0 0, .slice none 0 0, .slice none 0 0, .slice none 0 0, .slice none 0 0, .slice none 0 0, .slice none 0 0, .slice none 0 0, .slice none 0 0, .slice none 0 0]
theorem bk_build (W : World) : (Instr.build 49 #[]).run Tryz.prog W = .ok (.agg bkZ) W := run_build W _ #[] _ (by kernel_rfl)
theorem wpList_build_of {P : Program} {w : World} {ops : Array Oper} {rest : List Oper} {o : Oper} {a : Act} {Q : Exit → Act → World → Prop} (hgd : o.guard = none) (t : TypeId) (ho : o.op = .build t #[]) (cells : Array Value)
    (hr : (Instr.build t #[]).run P w = .ok (.agg cells) w) (h : wpList P ops Q rest (a.put o.dst (.agg cells)) w) : wpList P ops Q (o :: rest) a w :=
  wpList_plain hgd fun _ hK => by
    unfold Oper.wp execOp
    simp only [ho, Sem.run_bind, Array.map_empty, hr, Result.andThen_ok]
    exact hK _ _ h
end Go.Proofs.YtglafpdealjlnaaGreat
