/- Plain: what a way and a proxy do. No program in sight. -/
import Derived.Test.YteflpekokgdllaaOptQ
import Derived.Test.YteflpekokgdllaaAvpN
import Derived.Test.YteflpekokgdllaaInts
namespace Go.Proofs.Yteflpekokgdllaa
open Go.RowKit
set_option linter.unusedSimpArgs false
set_option linter.unusedVariables false

/-- A way. -/
structure Wy where
  tunnel : Int
  session : Int
  seq : Bool
  next : Int
  last : Int
  came : Bool
  put : Int
  taken : Int
  missed : Int
def Wy.cells (x : Wy) : Array Value := #[.int .i64 x.tunnel, .int .i64 x.session, .bool x.seq, .int .u16 x.next, .int .i64 x.last, .bool x.came, .int .i64 x.put, .int .i64 x.taken, .int .i64 x.missed]
/-- A data message. -/
structure Ld where
  tunnel : Int
  session : Int
  seq : Bool
  ns : Int
  nr : Int
  data : ByteArray
def Ld.agg (l : Ld) : Value := .agg #[.int .i64 l.tunnel, .int .i64 l.session, .bool l.seq, .int .i64 l.ns, .int .i64 l.nr, .string l.data]
def Ld.zero : Ld := ⟨0, 0, false, 0, 0, ⟨#[]⟩⟩
def bef (a b : Int) : Bool := decide (0 < (b - a) % 65536) && decide ((b - a) % 65536 < 32768)
def up1 (n : Int) : Int := min (n + 1) 4611686018427387904
structure Wy.ok (x : Wy) : Prop where
  put : 0 ≤ x.put ∧ x.put ≤ 4611686018427387904
  taken : 0 ≤ x.taken ∧ x.taken ≤ 4611686018427387904
  missed : 0 ≤ x.missed ∧ x.missed ≤ 4611686018427387904
  next : 0 ≤ x.next ∧ x.next < 65536
  last : 0 ≤ x.last ∧ x.last < 65536
  tunnel : 1 ≤ x.tunnel ∧ x.tunnel ≤ 65535
  session : 1 ≤ x.session ∧ x.session ≤ 65535
theorem up1_ok {n : Int} (h : 0 ≤ n ∧ n ≤ 4611686018427387904) : 0 ≤ up1 n ∧ up1 n ≤ 4611686018427387904 := by
  unfold up1; omega
def Wy.late (x : Wy) (l : Ld) : Bool := x.came && (decide (l.ns % 65536 = x.last) || bef (l.ns % 65536) x.last)
def Wy.get (x : Wy) (l : Ld) : Wy × ByteArray × Bool :=
  if x.seq = true ∧ l.seq = true then
    if x.late l = true then ({ x with missed := up1 x.missed }, ⟨#[]⟩, false)
    else ({ x with last := l.ns % 65536, came := true, taken := up1 x.taken }, l.data, true)
  else ({ x with taken := up1 x.taken }, l.data, true)
theorem Wy.get_ok {x : Wy} (h : x.ok) (l : Ld) : (x.get l).1.ok := by
  unfold Wy.get
  split
  · split
    · exact { h with missed := up1_ok h.missed }
    · exact { h with taken := up1_ok h.taken, last := by simp only; omega }
  · exact { h with taken := up1_ok h.taken }
def Ld.bad (l : Ld) : Bool := [l.tunnel, l.session, l.ns, l.nr].any (fun n => decide (n < 0) || decide (65535 < n)) || (!l.seq && (!decide (l.ns = 0) || !decide (l.nr = 0)))
def Ld.bytes (l : Ld) : ByteArray :=
  if l.seq = true then strOfNums [72, 2] ++ wordsOf [(l.data.size : Int) + 12, l.tunnel, l.session, l.ns, l.nr] ⟨#[]⟩ ++ l.data
  else strOfNums [64, 2] ++ wordsOf [(l.data.size : Int) + 8, l.tunnel, l.session] ⟨#[]⟩ ++ l.data
def Ld.put (l : Ld) : ByteArray × Int := if l.bad = true then (⟨#[]⟩, 1) else if 1460 < l.data.size then (⟨#[]⟩, 2) else (l.bytes, 0)
def Wy.load (x : Wy) (d : ByteArray) : Ld := ⟨x.tunnel, x.session, x.seq, if x.seq = true then x.next else 0, 0, d⟩
def Wy.lay (x : Wy) (d : ByteArray) : Wy × ByteArray × Int :=
  if 1460 < d.size then (x, ⟨#[]⟩, 2) else ({ x with next := (x.next + 1) % 65536, put := up1 x.put }, (x.load d).bytes, 0)
theorem Wy.lay_ok {x : Wy} (h : x.ok) (d : ByteArray) : (x.lay d).1.ok := by
  unfold Wy.lay
  split
  · exact h
  · exact { h with put := up1_ok h.put, next := by simp only; omega }
theorem Wy.load_put {x : Wy} (h : x.ok) (d : ByteArray) : (x.load d).put = ((x.lay d).2.1, (x.lay d).2.2) := by
  have hb : (x.load d).bad = false := by
    have h1 := h.next; have h2 := h.tunnel; have h3 := h.session
    unfold Ld.bad Wy.load
    cases x.seq <;> simp <;> omega
  unfold Ld.put Wy.lay
  rw [hb, if_neg (by simp)]
  have : (x.load d).data = d := rfl
  rw [this]
  split <;> rfl

/-- A proxy. -/
structure Px where
  first : List Tg
  tx : List Tg
  rx : List Tg
  kind : Int
  id : Int
  name : ByteArray
  value : ByteArray
  reply : ByteArray
def Px.zero : Px := ⟨[], [], [], 0, 0, ⟨#[]⟩, ⟨#[]⟩, ⟨#[]⟩⟩
def Px.val (p : Px) (f t r : Value) : Value := .agg #[f, t, r, .int .i64 p.kind, .int .i64 p.id, .string p.name, .string p.value, .string p.reply]
def Px.cells (p : Px) (f t r : Value) : Array Value := #[f, t, r, .int .i64 p.kind, .int .i64 p.id, .string p.name, .string p.value, .string p.reply]
def textAv (kind : Int) (s : ByteArray) : Av := ⟨true, false, 0, kind, s⟩
def low8 (n : Int) : Int := bits .and .i64 n 255
def Px.auth (p : Px) : List Av :=
  if p.kind = 2 then [textAv 30 p.name, numAv 32 (low8 p.id) 2, textAv 31 p.value, textAv 33 p.reply]
  else if p.kind = 3 then [textAv 30 p.name, numAv 32 (low8 p.id) 2, textAv 33 p.reply] else []
def Px.link (p : Px) : List Av := [textAv 26 (encOpts p.first), textAv 27 (encOpts p.tx), textAv 28 (encOpts p.rx)]
def Px.all (p : Px) : List Av := p.link ++ ((if p.kind = 0 then [] else [numAv 29 p.kind 2]) ++ p.auth)
def bigAv (x : Av) : Bool := decide (1000 < x.val.size)
def Px.linkBad (p : Px) : Bool := !decide ((putOpts p.first).2 = 0) || (!decide ((putOpts p.tx).2 = 0) || !decide ((putOpts p.rx).2 = 0))
def Px.build (p : Px) : List Av := if p.linkBad = true then [] else if p.all.any bigAv = true then [] else p.all

def cntAv (kind : Int) (l : List Av) : Nat := l.countP (avIs kind)
def txtAv (l : List Av) (kind : Int) : ByteArray := if cntAv kind l = 1 then (findAv kind l).1 else ⟨#[]⟩
def oneAv (l : List Av) (kind : Int) : Bool := decide (cntAv kind l = 1)
def nrAv (l : List Av) (kind : Int) : Int := (valueB (txtAv l kind)).1
def nrOk (l : List Av) (kind lo hi : Int) : Bool := oneAv l kind && (decide ((txtAv l kind).size = 2) && (decide (lo ≤ nrAv l kind) && decide (nrAv l kind ≤ hi)))
def osAv (l : List Av) (kind : Int) : List Tg := (getOpts (txtAv l kind)).1
def osOk (l : List Av) (kind : Int) : Bool := oneAv l kind && decide ((getOpts (txtAv l kind)).2 = 0)
def claimed (l : List Av) : Px × Bool :=
  if nrAv l 29 ≠ 2 ∧ nrAv l 29 ≠ 3 then ({ Px.zero with kind := nrAv l 29 }, nrOk l 29 2 4)
  else if nrAv l 29 = 2 then
    ({ Px.zero with kind := nrAv l 29, name := txtAv l 30, reply := txtAv l 33, id := nrAv l 32, value := txtAv l 31 },
      ((((nrOk l 29 2 4 && oneAv l 30) && oneAv l 33) && nrOk l 32 0 255) && oneAv l 31) && (!decide ((txtAv l 31).size = 0) && decide ((txtAv l 31).size ≤ 60)))
  else ({ Px.zero with kind := nrAv l 29, name := txtAv l 30, reply := txtAv l 33, id := nrAv l 32 }, ((nrOk l 29 2 4 && oneAv l 30) && oneAv l 33) && nrOk l 32 0 255)
def linked (l : List Av) : Bool := (osOk l 26 && osOk l 27) && osOk l 28
def parsed (l : List Av) : Px :=
  let p := if (claimed l).2 = true then (claimed l).1 else Px.zero
  if linked l = true then { p with first := osAv l 26, tx := osAv l 27, rx := osAv l 28 } else p
end Go.Proofs.Yteflpekokgdllaa
