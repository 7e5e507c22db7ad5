/- The channel as plain data, and what its methods do to it. No program in sight. -/
import Derived.Test.YtdccmlpikjbcaaaGreatLib
namespace Go.Proofs.YtdccmlpikjbcaaaGreat
open Go.RowKit

structure C where
  window : Int
  queue : Int
  retry : Int
  wait : Int
  sent : Int
  came : Int
  waits : List ByteArray
  flies : List ByteArray
  room : Int
  mark : Int
  count : Int
  tries : Int
  ticks : Int
  again : Bool
  owed : Bool
  dead : Bool
  made : Bool

def C.cells (c : C) (vw vf : Value) : Array Value :=
  #[.int .i64 c.window, .int .i64 c.queue, .int .i64 c.retry, .int .i64 c.wait, .int .u16 c.sent, .int .u16 c.came, vw, vf,
    .int .i64 c.room, .int .i64 c.mark, .int .i64 c.count, .int .i64 c.tries, .int .i64 c.ticks, .bool c.again, .bool c.owed, .bool c.dead, .bool c.made]

structure C.ok (c : C) : Prop where
  w1 : 1 ≤ c.window
  w2 : c.window ≤ 64
  q1 : 1 ≤ c.queue
  q2 : c.queue ≤ 40
  t1 : 0 ≤ c.retry
  t2 : c.retry ≤ 10
  a1 : 1 ≤ c.wait
  a2 : c.wait ≤ 100
  s1 : 0 ≤ c.sent
  s2 : c.sent < 65536
  c1 : 0 ≤ c.came
  c2 : c.came < 65536
  r1 : 1 ≤ c.room
  r2 : c.room ≤ c.window
  m1 : 1 ≤ c.mark
  m2 : c.mark ≤ 64
  n1 : 0 ≤ c.count
  n2 : c.count ≤ 64
  e1 : 0 ≤ c.tries
  e2 : c.tries ≤ c.retry
  k1 : 0 ≤ c.ticks
  k2 : c.ticks ≤ 801
  l1 : (c.waits.length : Int) ≤ c.queue
  l2 : (c.flies.length : Int) ≤ 64
  d1 : c.made = true
  k3 : c.dead = true ∨ c.ticks ≤ 800

def strs (l : List ByteArray) : List Value := l.map Value.string
@[simp] theorem strs_length (l : List ByteArray) : (strs l).length = l.length := by simp [strs]
theorem strs_get (l : List ByteArray) (j : Nat) : (strs l)[j]? = (l[j]?).map Value.string := by simp [strs]
theorem strs_oneCell (l : List ByteArray) : ∀ u ∈ strs l, u.oneCell' = true := by
  intro u hu
  simp only [strs, List.mem_map] at hu
  obtain ⟨s, _, rfl⟩ := hu
  rfl

/-- The first text, or the empty one. -/
def hd : List ByteArray → ByteArray
  | [] => ByteArray.empty
  | a :: _ => a

def bef (a b : Int) : Bool := decide (0 < (b - a) % 65536) && decide ((b - a) % 65536 < 32768)

def C.first (c : C) : Int := (c.sent - c.flies.length) % 65536

def C.grow (c : C) : C :=
  if c.room < c.mark then { c with room := min (c.room + 1) c.window }
  else if c.room ≤ c.count + 1 then { c with room := min (c.room + 1) c.window, count := 0 }
  else { c with count := c.count + 1 }

def C.pop (c : C) : C := ({ c with flies := c.flies.tail, tries := 0, ticks := 0, again := false } : C).grow

def C.ackLoop (nr : Int) : Nat → C → C
  | 0, c => c
  | n + 1, c => if 0 < c.flies.length ∧ bef c.first nr = true then C.ackLoop nr n c.pop else c

def C.acked (c : C) (nr : Int) : C :=
  if bef nr c.first = true ∨ bef c.sent nr = true then c else C.ackLoop nr c.flies.length c

def C.take (c : C) (ns nr : Int) (body : ByteArray) : C × List ByteArray :=
  if c.dead = true ∨ ¬ (0 ≤ ns ∧ ns ≤ 65535) ∨ ¬ (0 ≤ nr ∧ nr ≤ 65535) then (c, [])
  else if body.size = 0 then (c.acked nr, [])
  else if ns ≠ (c.acked nr).came then ({ c.acked nr with owed := true }, [])
  else ({ c.acked nr with owed := true, came := ((c.acked nr).came + 1) % 65536 }, [body])

def C.send (c : C) (body : ByteArray) : C × Int :=
  if c.dead = true then (c, 20)
  else if body.size = 0 ∨ 1500 < body.size then (c, 1)
  else if c.queue ≤ c.waits.length then (c, 10)
  else ({ c with waits := c.waits ++ [body] }, 0)

structure Item where
  ns : Int
  nr : Int
  body : ByteArray
def Item.cells (i : Item) : List Value := [.int .i64 i.ns, .int .i64 i.nr, .string i.body]

def C.fly (c : C) : C := { c with waits := c.waits.tail, flies := c.flies ++ [hd c.waits], sent := (c.sent + 1) % 65536, ticks := 0 }
def C.flyItem (c : C) : Item := ⟨c.sent, c.came, hd c.waits⟩
def C.outLoop : Nat → C × List Item → C × List Item
  | 0, p => p
  | n + 1, (c, l) => if 0 < c.waits.length ∧ (c.flies.length : Int) < min c.room c.window then C.outLoop n (c.fly, l ++ [c.flyItem]) else (c, l)
def C.outAgain (c : C) : List Item := if c.again = true ∧ 0 < c.flies.length then [⟨c.first, c.came, hd c.flies⟩] else []
def C.outEnd (p : C × List Item) : C × List Item :=
  ({ p.1 with again := false, owed := false }, if p.2 = [] ∧ p.1.owed = true then p.2 ++ [⟨p.1.sent, p.1.came, ByteArray.empty⟩] else p.2)
def C.out (c : C) : C × List Item :=
  if c.dead = true then (c, []) else C.outEnd (C.outLoop c.waits.length (c, c.outAgain))

def C.tick (c : C) : C :=
  if c.dead = true ∨ c.flies.length = 0 then c
  else if c.ticks + 1 < c.wait * 2 ^ (min c.tries 3).toNat then { c with ticks := c.ticks + 1 }
  else if c.retry ≤ c.tries then { c with ticks := c.ticks + 1, dead := true }
  else { c with tries := c.tries + 1, ticks := 0, again := true, mark := max (c.room / 2) 1, room := 1, count := 0 }

end Go.Proofs.YtdccmlpikjbcaaaGreat
