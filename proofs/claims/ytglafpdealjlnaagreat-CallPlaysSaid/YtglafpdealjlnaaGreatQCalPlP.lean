/- WRITTEN by wip/gen/calpl.py. What the walk of CallPlays leans on. -/
import Derived.Deep.DeepCutAuto
import Derived.Deep.LoopGhost
import Derived.Deep.CutRange
import Derived.Deep.CutBlock
import Derived.Test.YtglafpdealjlnaaGreatQCpR
import Derived.Test.YtglafpdealjlnaaGreatQMsgL
import Derived.Test.YtglafpdealjlnaaGreatQCallH
import Derived.Test.YtglafpdealjlnaaGreatQBkZ
namespace Go.Proofs.YtglafpdealjlnaaGreat
open Go.RowKit
set_option linter.unusedSimpArgs false
set_option linter.unusedVariables false
set_option maxRecDepth 100000

theorem new_call_bad (id serial : Int) (out : Bool) (w : World) (t : ¬ (1 ≤ id ∧ id ≤ 65535 ∧ 0 ≤ serial ∧ serial < 4294967296)) :
    Calls Tryz.prog 35 #[.int .i64 id, .int .i64 serial, .bool out] w fun e w' => e = .returned (.tuple #[.pointer none, .int .i64 1]) ∧ w = w' := by
  have key : id < 1 ∨ (¬ id < 1 ∧ 65535 < id) ∨ (¬ id < 1 ∧ ¬ 65535 < id ∧ serial < 0) ∨ (¬ id < 1 ∧ ¬ 65535 < id ∧ ¬ serial < 0 ∧ 4294967295 < serial) := by omega
  clear t
  rcases key with k1 | ⟨k1, k2⟩ | ⟨k1, k2, k3⟩ | ⟨k1, k2, k3, k4⟩
  all_goals
    go_enter Tryz.func35, Tryz.ntmps35
    go_wp2_with fail
    go_ret2
    exact ⟨rfl, rfl⟩
/-- Something that is done. -/
structure Cop where
  kind : Int
  n : Int
  t : Int
  s : Int
  ns : Int
  nr : Int
  l : List Av
  txt : ByteArray
def CopAt (w : World) (p : Addr) (a : Cop) : Prop :=
  w.cell? p = some (.int .i64 a.kind) ∧ w.cell? ⟨p.block, p.off + 1, none⟩ = some (.int .i64 a.n) ∧ w.cell? ⟨p.block, p.off + 2, none⟩ = some (.int .i64 a.t) ∧ w.cell? ⟨p.block, p.off + 2 + 1, none⟩ = some (.int .i64 a.s) ∧
  w.cell? ⟨p.block, p.off + 2 + 2, none⟩ = some (.int .i64 a.ns) ∧ w.cell? ⟨p.block, p.off + 2 + 3, none⟩ = some (.int .i64 a.nr) ∧ (∃ u, w.cell? ⟨p.block, p.off + 2 + 4, none⟩ = some u ∧ AvsAt w u a.l) ∧ w.cell? ⟨p.block, p.off + 7, none⟩ = some (.string a.txt)
theorem CopAt.upd {w w' : World} {p : Addr} {a : Cop} (h : CopAt w p a) (hu : Upd [] w w') : CopAt w' p a := by
  obtain ⟨h1, h2, h3, h4, h5, h6, ⟨u, h7, h8⟩, h9⟩ := h
  exact ⟨(hu.cell (cell_lt' h1) (by simp)).trans h1, (hu.cell (cell_lt' h2) (by simp)).trans h2, (hu.cell (cell_lt' h3) (by simp)).trans h3, (hu.cell (cell_lt' h4) (by simp)).trans h4, (hu.cell (cell_lt' h5) (by simp)).trans h5, (hu.cell (cell_lt' h6) (by simp)).trans h6,
    ⟨u, (hu.cell (cell_lt' h7) (by simp)).trans h7, h8.upd hu⟩, (hu.cell (cell_lt' h9) (by simp)).trans h9⟩
structure CopOk (a : Cop) : Prop where
  n : Big a.n
  l : ∀ t ∈ a.l, t.val.size ≤ 140737488355328
  txt : a.txt.size ≤ 140737488355328
def CopsAt (w : World) (v : Value) (l : List Cop) : Prop :=
  ∃ ao cap, v = .slice ao l.length cap ∧ l.length ≤ cap ∧ cap ≤ maxLen ∧ ∀ i a, l[i]? = some a → ∃ q, ao = some q ∧ CopAt w (q.add (i * 8)) a
theorem CopsAt.upd {w w' : World} {v : Value} {l : List Cop} (h : CopsAt w v l) (hu : Upd [] w w') : CopsAt w' v l := by
  obtain ⟨ao, cap, rfl, h1, h2, h3⟩ := h
  refine ⟨ao, cap, rfl, h1, h2, fun i t ht => ?_⟩
  obtain ⟨q, rfl, k⟩ := h3 i t ht
  exact ⟨q, rfl, k.upd hu⟩
/-- The boxes of the loop's variables. -/
structure Bxs (w : World) (gO gM : Nat) (co cm : Array Value) : Prop where
  o : Blk w gO 80 co
  m : Blk w gM 24 cm
theorem Bxs.fr {w0 w w' : World} {gO gM : Nat} {co cm : Array Value} (h : Bxs w gO gM co cm) (hu : Fr w0 w w') : Bxs w' gO gM co cm := ⟨h.o.updT hu (by decide), h.m.updT hu (by decide)⟩
theorem Bxs.upd {w w' : World} {gO gM : Nat} {co cm : Array Value} (h : Bxs w gO gM co cm) (hu : Upd [] w w') : Bxs w' gO gM co cm := ⟨h.o.upd hu (by simp), h.m.upd hu (by simp)⟩
/-- Where the switch is over. -/
structure SwEnd (w0 w : World) (b b' bp g gO gM : Nat) (co : Array Value) (kd : Int) (mm : Nat) (vm va vb : Value) : Prop where
  ex : ∃ (k p : K) (m l : List Sy) (us : List Value) (om ob : List Nat) (t s ns nr : Int) (u : Value) (lm : List Av), CpB w0 w b b' bp g k k p vm m va vb l us om ob ∧ Bxs w gO gM co #[.int .i64 t, .int .i64 s, .int .i64 ns, .int .i64 nr, u] ∧
    Src w0 w u lm ∧ (∀ a ∈ lm, a.val.size ≤ maxLen) ∧ lm.length ≤ 5000 ∧ KOk (mm + 1) k ∧ KOk (2 * (mm + 1)) p ∧ SaysOk 1 l ∧ SaysOk (5 * (100 - (mm + 1)) + 1) m ∧ (∀ a ∈ lm, a.val.size ≤ maxLen)
/-- .. and both ends have said what they say. -/
structure TkEnd (w0 w : World) (b b' bp g : Nat) (mm : Nat) (vm va vb : Value) : Prop where
  ex : ∃ (k p : K) (m l : List Sy) (us : List Value) (om ob : List Nat), CpB w0 w b b' bp g k k p vm m va vb l us om ob ∧ KOk mm k ∧ KOk (2 * (mm + 1)) p ∧ SaysOk 2 l ∧ SaysOk (5 * (100 - (mm + 1)) + 1) m
/-- Both ends stand, and so do the boxes and the values at hand. -/
structure CA (w0 W : World) (b b' bp g gO gM : Nat) (co cm : Array Value) (u : Value) (lu : List Av) (k p : K) (vm : Value) (m : List Sy) : Prop where
  c : Cp w0 W b b' bp g k k p vm m
  x : Bxs W gO gM co cm
  s : Src w0 W u lu
structure CB (w0 W : World) (b b' bp g gO gM : Nat) (co cm : Array Value) (u : Value) (lu : List Av) (k1 k p : K) (vm : Value) (m l : List Sy) (va : Value) : Prop where
  c : CpA w0 W b b' bp g k1 k p vm m va l
  x : Bxs W gO gM co cm
  s : Src w0 W u lu
structure CD (w0 W : World) (b b' bp g gO gM : Nat) (co cm : Array Value) (u : Value) (lu : List Av) (k1 p : K) (vm : Value) (m l : List Sy) (va vb : Value) : Prop where
  c : ∃ us om ob, CpB w0 W b b' bp g k1 k1 p vm m va vb l us om ob
  x : Bxs W gO gM co cm
  s : Src w0 W u lu
/-- Both ends are about to take; and as they take. -/
structure TA (w0 W : World) (b b' bp g gM gX : Nat) (cm cx : Array Value) (u : Value) (lm : List Av) (vx : Value) (ox : List Nat) (k p : K) (vm : Value) (m : List Sy) : Prop where
  c : Cp w0 W b b' bp g k k p vm m
  bm : Blk W gM 24 cm
  bx : Blk W gX 24 cx
  s : Src w0 W u lm
  l : LentAt bkCAvps 85 5 bkLAvps W vx lm ox
structure TB (w0 W : World) (b b' bp g gM gX : Nat) (cm cx : Array Value) (u : Value) (lm : List Av) (vx : Value) (ox : List Nat) (k1 k p : K) (vm : Value) (m l : List Sy) (va : Value) : Prop where
  c : CpA w0 W b b' bp g k1 k p vm m va l
  bm : Blk W gM 24 cm
  bx : Blk W gX 24 cx
  s : Src w0 W u lm
  l : LentAt bkCAvps 85 5 bkLAvps W vx lm ox
structure TD (w0 W : World) (b b' bp g gM gX : Nat) (cm cx : Array Value) (u : Value) (lm : List Av) (vx : Value) (ox : List Nat) (k1 p : K) (vm : Value) (m l : List Sy) (va vb : Value) : Prop where
  c : ∃ us om ob, CpB w0 W b b' bp g k1 k1 p vm m va vb l us om ob
  bm : Blk W gM 24 cm
  bx : Blk W gX 24 cx
  s : Src w0 W u lm
  l : LentAt bkCAvps 85 5 bkLAvps W vx lm ox
theorem TA.keep {w0 W W' : World} {b b' bp g gM gX : Nat} {cm cx : Array Value} {u : Value} {lm : List Av} {vx : Value} {ox : List Nat} {k p : K} {vm : Value} {m : List Sy} (h : TA w0 W b b' bp g gM gX cm cx u lm vx ox k p vm m) (hu : Upd [] W W') : TA w0 W' b b' bp g gM gX cm cx u lm vx ox k p vm m := ⟨h.c.keep hu, h.bm.upd hu (by simp), h.bx.upd hu (by simp), h.s.upd hu, h.l.updD hu⟩
theorem CA.keep {w0 W W' : World} {b b' bp g gO gM : Nat} {co cm : Array Value} {u : Value} {lu : List Av} {k p : K} {vm : Value} {m : List Sy} (h : CA w0 W b b' bp g gO gM co cm u lu k p vm m) (hu : Upd [] W W') : CA w0 W' b b' bp g gO gM co cm u lu k p vm m := ⟨h.c.keep hu, h.x.upd hu, h.s.upd hu⟩
def chU (A : World → Prop) (B : Value → World → Prop) (D : Value → Value → World → Prop) (vs : List Value) (W : World) : Prop := match vs with
  | [] => A W
  | [v] => B v W
  | [v, v'] => D v v' W
  | [v, v', x] => D v v' W ∧ x = v
  | [v, v', x, y] => D v v' W ∧ x = v ∧ y = v'
  | _ => False
theorem chU.any {A : World → Prop} {B : Value → World → Prop} {D : Value → Value → World → Prop} {Q : World → Prop} {vs : List Value} {W : World} (h : chU A B D vs W) (h1 : ∀ W, A W → Q W) (h2 : ∀ v W, B v W → Q W) (h3 : ∀ v v' W, D v v' W → Q W) : Q W := by
  match vs with
  | [] => exact h1 W h
  | [v] => exact h2 v W h
  | [v, v'] => exact h3 v v' W h
  | [v, v', x] => exact h3 v v' W h.1
  | [v, v', x, y] => exact h3 v v' W h.1
  | _ :: _ :: _ :: _ :: _ :: _ => exact h.elim
/-- The peer's words come behind the mail, in a plain list of operations. -/
theorem wpList_mail {w0 w : World} {b b' bp g : Nat} {kc kr p : K} {vm vq : Value} {m lq : List Sy} {oq : List Nat} {ops : Array Oper} {rest : List Oper} {o : Oper} {a : Act} {Q : Exit → Act → World → Prop} (hgd : o.guard = none) (s x : Operand)
    (ho : o.op = .call { callee := .builtin .append, args := #[s, x], argTypes := #[78, 78] }) (h : Cp w0 w b b' bp g kc kr p vm m) (hq : RSaysAt w vq lq oq) (hn : m.length + lq.length ≤ 100000) (hs : a.eval s = vm) (hx : a.eval x = vq)
    (k : ∀ ao cap w', Cp w0 w' b b' bp g kc kr p (.slice ao (m.length + lq.length) cap) (m ++ lq) → Fr w0 w w' → wpList Tryz.prog ops Q rest (a.put o.dst (.slice ao (m.length + lq.length) cap)) w') : wpList Tryz.prog ops Q (o :: rest) a w :=
  wpList_plain hgd fun _ hK => by
    obtain ⟨ao, cap, w', hrun, h2, h3⟩ := h.append hq hn o.type
    unfold Oper.wp execOp
    simp only [ho, resolve, invoke, builtin, Sem.run_bind, Sem.run_pure, Result.andThen_ok, List.map_toArray, List.map_cons, List.map_nil, hs, hx, hrun]
    exact hK _ _ (k _ _ _ h2 h3)
structure PA (w0 W : World) (b b' bp g : Nat) (k p : K) (vm : Value) (m : List Sy) (va vb : Value) (l : List Sy) (us : List Value) (om ob : List Nat) (u : Value) (lu : List Av) : Prop where
  c : CpB w0 W b b' bp g k k p vm m va vb l us om ob
  s : Src w0 W u lu
theorem PA.keep {w0 W W' : World} {b b' bp g : Nat} {k p : K} {vm : Value} {m : List Sy} {va vb : Value} {l : List Sy} {us : List Value} {om ob : List Nat} {u : Value} {lu : List Av} (h : PA w0 W b b' bp g k p vm m va vb l us om ob u lu) (hu : Upd [] W W') : PA w0 W' b b' bp g k p vm m va vb l us om ob u lu := ⟨h.c.keep hu, h.s.upd hu⟩
def chV (A : World → Prop) (B D : Value → World → Prop) (vs : List Value) (W : World) : Prop := match vs with
  | [] => A W
  | [v] => B v W
  | [_, u] => D u W
  | [_, u, x] => D u W ∧ x = u
  | _ => False
theorem chV.any {A : World → Prop} {B D : Value → World → Prop} {Q : World → Prop} {vs : List Value} {W : World} (h : chV A B D vs W) (h1 : ∀ W, A W → Q W) (h2 : ∀ v W, B v W → Q W) (h3 : ∀ v W, D v W → Q W) : Q W := by
  match vs with
  | [] => exact h1 W h
  | [v] => exact h2 v W h
  | [_, u] => exact h3 u W h
  | [_, u, x] => exact h3 u W h.1
  | _ :: _ :: _ :: _ :: _ => exact h.elim
theorem hb8_cell {w : World} {g : Nat} {t : TypeId} {a b c d e : Value} (h : Blk w g t #[a, b, c, d, e]) : w.cell? ⟨g, 4, none⟩ = some e := by
  have := h.cell 4
  simpa using this
end Go.Proofs.YtglafpdealjlnaaGreat
