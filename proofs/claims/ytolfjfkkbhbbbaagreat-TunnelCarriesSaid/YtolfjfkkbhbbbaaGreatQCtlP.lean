/- The channel as plain data, and what its methods do to it. No program in sight. The walks of the channel's small methods. The walks of the channel's readers, of New, and of what a nil channel answers. The walk of 'acked'. -/
import Derived.Test.YtolfjfkkbhbbbaaGreatRows
import Derived.Deep.LoopGhost
import Derived.Test.YtolfjfkkbhbbbaaGreatQLib
namespace Go.Proofs.YtolfjfkkbhbbbaaGreat
open Go.RowKit

structure C where
  window : Int
  queue : Int
  retry : Int
  wait : Int
  sent : Int
  came : Int
  waits : List ByteArray
  flies : List ByteArray
  room : Int
  mark : Int
  count : Int
  tries : Int
  ticks : Int
  again : Bool
  owed : Bool
  dead : Bool
  made : Bool

def C.cells (c : C) (vw vf : Value) : Array Value :=
  #[.int .i64 c.window, .int .i64 c.queue, .int .i64 c.retry, .int .i64 c.wait, .int .u16 c.sent, .int .u16 c.came, vw, vf,
    .int .i64 c.room, .int .i64 c.mark, .int .i64 c.count, .int .i64 c.tries, .int .i64 c.ticks, .bool c.again, .bool c.owed, .bool c.dead, .bool c.made]

structure C.ok (c : C) : Prop where
  w1 : 1 ≤ c.window
  w2 : c.window ≤ 64
  q1 : 1 ≤ c.queue
  q2 : c.queue ≤ 40
  t1 : 0 ≤ c.retry
  t2 : c.retry ≤ 10
  a1 : 1 ≤ c.wait
  a2 : c.wait ≤ 100
  s1 : 0 ≤ c.sent
  s2 : c.sent < 65536
  c1 : 0 ≤ c.came
  c2 : c.came < 65536
  r1 : 1 ≤ c.room
  r2 : c.room ≤ c.window
  m1 : 1 ≤ c.mark
  m2 : c.mark ≤ 64
  n1 : 0 ≤ c.count
  n2 : c.count ≤ 64
  e1 : 0 ≤ c.tries
  e2 : c.tries ≤ c.retry
  k1 : 0 ≤ c.ticks
  k2 : c.ticks ≤ 801
  l1 : (c.waits.length : Int) ≤ c.queue
  l2 : (c.flies.length : Int) ≤ 64
  d1 : c.made = true
  k3 : c.dead = true ∨ c.ticks ≤ 800

def strs (l : List ByteArray) : List Value := l.map Value.string
@[simp] theorem strs_length (l : List ByteArray) : (strs l).length = l.length := by simp [strs]
theorem strs_get (l : List ByteArray) (j : Nat) : (strs l)[j]? = (l[j]?).map Value.string := by simp [strs]
theorem strs_oneCell (l : List ByteArray) : ∀ u ∈ strs l, u.oneCell' = true := by
  intro u hu
  simp only [strs, List.mem_map] at hu
  obtain ⟨s, _, rfl⟩ := hu
  rfl

/-- The first text, or the empty one. -/
def hd : List ByteArray → ByteArray
  | [] => ByteArray.empty
  | a :: _ => a

def bef (a b : Int) : Bool := decide (0 < (b - a) % 65536) && decide ((b - a) % 65536 < 32768)

def C.first (c : C) : Int := (c.sent - c.flies.length) % 65536

def C.grow (c : C) : C :=
  if c.room < c.mark then { c with room := min (c.room + 1) c.window }
  else if c.room ≤ c.count + 1 then { c with room := min (c.room + 1) c.window, count := 0 }
  else { c with count := c.count + 1 }

def C.pop (c : C) : C := ({ c with flies := c.flies.tail, tries := 0, ticks := 0, again := false } : C).grow

def C.ackLoop (nr : Int) : Nat → C → C
  | 0, c => c
  | n + 1, c => if 0 < c.flies.length ∧ bef c.first nr = true then C.ackLoop nr n c.pop else c

def C.acked (c : C) (nr : Int) : C :=
  if bef nr c.first = true ∨ bef c.sent nr = true then c else C.ackLoop nr c.flies.length c

def C.take (c : C) (ns nr : Int) (body : ByteArray) : C × List ByteArray :=
  if c.dead = true ∨ ¬ (0 ≤ ns ∧ ns ≤ 65535) ∨ ¬ (0 ≤ nr ∧ nr ≤ 65535) then (c, [])
  else if body.size = 0 then (c.acked nr, [])
  else if ns ≠ (c.acked nr).came then ({ c.acked nr with owed := true }, [])
  else ({ c.acked nr with owed := true, came := ((c.acked nr).came + 1) % 65536 }, [body])

def C.send (c : C) (body : ByteArray) : C × Int :=
  if c.dead = true then (c, 20)
  else if body.size = 0 ∨ 1500 < body.size then (c, 1)
  else if c.queue ≤ c.waits.length then (c, 10)
  else ({ c with waits := c.waits ++ [body] }, 0)

structure Item where
  ns : Int
  nr : Int
  body : ByteArray
def Item.cells (i : Item) : List Value := [.int .i64 i.ns, .int .i64 i.nr, .string i.body]

def C.fly (c : C) : C := { c with waits := c.waits.tail, flies := c.flies ++ [hd c.waits], sent := (c.sent + 1) % 65536, ticks := 0 }
def C.flyItem (c : C) : Item := ⟨c.sent, c.came, hd c.waits⟩
def C.outLoop : Nat → C × List Item → C × List Item
  | 0, p => p
  | n + 1, (c, l) => if 0 < c.waits.length ∧ (c.flies.length : Int) < min c.room c.window then C.outLoop n (c.fly, l ++ [c.flyItem]) else (c, l)
def C.outAgain (c : C) : List Item := if c.again = true ∧ 0 < c.flies.length then [⟨c.first, c.came, hd c.flies⟩] else []
def C.outEnd (p : C × List Item) : C × List Item :=
  ({ p.1 with again := false, owed := false }, if p.2 = [] ∧ p.1.owed = true then p.2 ++ [⟨p.1.sent, p.1.came, ByteArray.empty⟩] else p.2)
def C.out (c : C) : C × List Item :=
  if c.dead = true then (c, []) else C.outEnd (C.outLoop c.waits.length (c, c.outAgain))

def C.tick (c : C) : C :=
  if c.dead = true ∨ c.flies.length = 0 then c
  else if c.ticks + 1 < c.wait * 2 ^ (min c.tries 3).toNat then { c with ticks := c.ticks + 1 }
  else if c.retry ≤ c.tries then { c with ticks := c.ticks + 1, dead := true }
  else { c with tries := c.tries + 1, ticks := 0, again := true, mark := max (c.room / 2) 1, room := 1, count := 0 }

end Go.Proofs.YtolfjfkkbhbbbaaGreat
namespace Go.Proofs.YtolfjfkkbhbbbaaGreat
open Go.RowKit

theorem wrap_u16_sub (a b : Int) : IntKind.u16.wrap (IntKind.u16.wrap b - IntKind.u16.wrap a) = (b - a) % 65536 := by
  simp [IntKind.wrap, IntKind.bits, IntKind.signed]
theorem wrap_u16_one (a b : Int) : IntKind.u16.wrap (a - IntKind.u16.wrap b) = (a - b) % 65536 := by
  simp [IntKind.wrap, IntKind.bits, IntKind.signed]
theorem wrap_u16 (a : Int) : IntKind.u16.wrap a = a % 65536 := by
  simp [IntKind.wrap, IntKind.bits, IntKind.signed]

set_option maxHeartbeats 400000 in
theorem before_any (a b : Int) (w : World) :
    Calls Tryz.prog 98 #[.int .i64 a, .int .i64 b] w fun e w' => e = .returned (.bool (bef a b)) ∧ w = w' := by
  go_enter Tryz.func98, Tryz.ntmps98
  go_wp2
  all_goals
    go_ret
    refine ⟨?_, rfl⟩
    simp_all [bef, wrap_u16_sub]
  all_goals omega

set_option maxHeartbeats 400000 in
theorem dead_any (b : Nat) (c : C) (vw vf : Value) (w : World) (hb : Blk w b 114 (c.cells vw vf)) :
    Calls Tryz.prog 60 #[.pointer (some ⟨b, 0, none⟩)] w fun e w' => e = .returned (.bool (!c.made || c.dead)) ∧ w = w' := by
  have h15 := hb.cell 15
  have h16 := hb.cell 16
  simp [C.cells] at h15 h16
  clear hb
  go_enter Tryz.func60, Tryz.ntmps60
  go_wp2
  all_goals
    go_ret
    refine ⟨?_, rfl⟩
    simp_all

set_option maxHeartbeats 400000 in
theorem dead_nil (w : World) :
    Calls Tryz.prog 60 #[.pointer none] w fun e w' => e = .returned (.bool true) ∧ w = w' := by
  go_enter Tryz.func60, Tryz.ntmps60
  go_wp2
  all_goals
    go_ret
    exact ⟨rfl, rfl⟩

set_option maxHeartbeats 400000 in
theorem first_any (b : Nat) (c : C) (vw : Value) (ao : Option Addr) (n cap : Nat) (w : World) (hn : n = c.flies.length) (hl : n ≤ 1000)
    (hb : Blk w b 114 (c.cells vw (.slice ao n cap))) :
    Calls Tryz.prog 72 #[.pointer (some ⟨b, 0, none⟩)] w fun e w' => e = .returned (.int .u16 c.first) ∧ ∃ k, w' = w.drewN k := by
  have h4 := hb.cell 4
  have h7 := hb.cell 7
  simp [C.cells] at h4 h7
  have H := Lib.hid hn
  clear hb hn
  go_enter Tryz.func72, Tryz.ntmps72
  go_wp2
  go_quiet (fail)
  go_wp2
  go_ret
  refine ⟨?_, _, rfl⟩
  simp [wrap_u16, C.first, H.out]

set_option maxHeartbeats 400000 in
theorem grow_any (b : Nat) (c : C) (vw vf : Value) (w : World) (hk : c.ok) (hb : Blk w b 114 (c.cells vw vf)) :
    Calls Tryz.prog 99 #[.pointer (some ⟨b, 0, none⟩)] w fun e w' => e = .returned (.tuple #[]) ∧ Blk w' b 114 (c.grow.cells vw vf) ∧ Upd [b] w w' := by
  have hf := hb.frozen
  have h0 := hb.cell 0
  have h8 := hb.cell 8
  have h9 := hb.cell 9
  have h10 := hb.cell 10
  simp [C.cells] at h0 h8 h9 h10
  have HB := Lib.hid hb
  have b1 := hk.r1
  have b2 := hk.r2
  have b3 := hk.n1
  have b4 := hk.n2
  have b5 := hk.w2
  clear hb hk
  by_cases t0 : c.window < c.room + 1
  all_goals by_cases t1 : c.room < c.mark
  any_goals by_cases t2 : c.room ≤ c.count + 1
  all_goals
    go_enter Tryz.func99, Tryz.ntmps99
    go_wp2
  all_goals ((first | go_quiet (fail) | go_region | skip); go_wp2)
  all_goals ((first | go_quiet (fail) | go_region | skip); go_wp2)
  all_goals ((first | go_quiet (fail) | go_region | skip); go_wp2)
  all_goals
    (first | go_end0 | refine bodyPost_ret (results_none rfl _ _ _) rfl ?_)
    refine ⟨rfl, Blk.of_eq (by repeat (with_reducible first | exact HB.out | apply Blk.drewN | apply Blk.drew | apply Blk.set_)) ?_,
      by repeat (with_reducible first | apply Upd.refl | apply Upd.drewN | apply Upd.drew | (refine Upd.setCell _ ?_ (by simp)))⟩
    simp only [C.grow]
    (repeat' split) <;> first | omega | (simp [C.cells]; done) | (simp [C.cells]; omega)
end Go.Proofs.YtolfjfkkbhbbbaaGreat
namespace Go.Proofs.YtolfjfkkbhbbbaaGreat
open Go.RowKit

set_option maxHeartbeats 400000 in
theorem waiting_any (b : Nat) (c : C) (vf : Value) (ao : Option Addr) (n cap : Nat) (w : World) (hb : Blk w b 114 (c.cells (.slice ao n cap) vf)) :
    Calls Tryz.prog 62 #[.pointer (some ⟨b, 0, none⟩)] w fun e w' => e = .returned (.int .i64 n) ∧ w = w' := by
  have h6 := hb.cell 6
  simp [C.cells] at h6
  clear hb
  go_enter Tryz.func62, Tryz.ntmps62
  go_wp2
  go_ret
  exact ⟨rfl, rfl⟩

set_option maxHeartbeats 400000 in
theorem waiting_nil (w : World) : Calls Tryz.prog 62 #[.pointer none] w fun e w' => e = .returned (.int .i64 0) ∧ w = w' := by
  go_enter Tryz.func62, Tryz.ntmps62
  go_wp2
  go_ret
  exact ⟨rfl, rfl⟩
set_option maxHeartbeats 400000 in
theorem newIn_any (n a b : Int) (w : World) :
    Calls Tryz.prog 94 #[.int .i64 n, .int .i64 a, .int .i64 b] w fun e w' => e = .returned (.bool (decide (a ≤ n) && decide (n ≤ b))) ∧ w = w' := by
  go_enter Tryz.func94, Tryz.ntmps94
  go_wp2
  all_goals
    go_ret
    refine ⟨?_, rfl⟩
    simp_all
  all_goals omega

structure NewOk (window queue retry wait first : Int) : Prop where
  w1 : 1 ≤ window
  w2 : window ≤ 64
  q1 : 1 ≤ queue
  q2 : queue ≤ 40
  t1 : 0 ≤ retry
  t2 : retry ≤ 10
  a1 : 1 ≤ wait
  a2 : wait ≤ 100
  f1 : 0 ≤ first
  f2 : first ≤ 65535

def C.new (window queue retry wait first : Int) : C :=
  ⟨window, queue, retry, wait, first, first, [], [], 1, window, 0, 0, 0, false, false, false, true⟩

theorem C.new_ok {window queue retry wait first : Int} (h : NewOk window queue retry wait first) : (C.new window queue retry wait first).ok := by
  obtain ⟨h1, h2, h3, h4, h5, h6, h7, h8, h9, h10⟩ := h
  constructor <;> (try simp [C.new]) <;> omega

set_option maxHeartbeats 1000000 in
theorem new_ok (window queue retry wait first : Int) (h : NewOk window queue retry wait first) (w : World) :
    Calls Tryz.prog 70 #[.int .i64 window, .int .i64 queue, .int .i64 retry, .int .i64 wait, .int .i64 first] w fun e w' =>
      e = .returned (.tuple #[.pointer (some ⟨w.heap.size, 0, none⟩), .int .i64 0]) ∧ w' = w.alloc (.cells ((C.new window queue retry wait first).cells (.slice none 0 0) (.slice none 0 0)) 114) := by
  obtain ⟨h1, h2, h3, h4, h5, h6, h7, h8, h9, h10⟩ := h
  go_enter Tryz.func70, Tryz.ntmps70
  go_wp2
  go_ret2
  refine ⟨rfl, ?_⟩
  simp [C.cells, C.new]

set_option maxHeartbeats 1000000 in
theorem new_bad (window queue retry wait first : Int) (h : ¬ NewOk window queue retry wait first) (w : World) :
    Calls Tryz.prog 70 #[.int .i64 window, .int .i64 queue, .int .i64 retry, .int .i64 wait, .int .i64 first] w fun e w' =>
      e = .returned (.tuple #[.pointer none, .int .i64 1]) ∧ w = w' := by
  have H := Lib.hid h
  clear h
  go_enter Tryz.func70, Tryz.ntmps70
  go_wp2_with (go_at_call 94; refine (newIn_any _ _ _ _).mono ?_; rintro e w' ⟨rfl, rfl⟩)
  all_goals go_ret2
  all_goals first
    | exact ⟨rfl, rfl⟩
    | (exfalso
       refine H.out ?_
       simp only [Bool.not_eq_false', decide_eq_true_eq] at *
       constructor <;> omega)
end Go.Proofs.YtolfjfkkbhbbbaaGreat
namespace Go.Proofs.YtolfjfkkbhbbbaaGreat
open Go.RowKit

theorem C.grow_ok {c : C} (h : c.ok) : c.grow.ok := by
  obtain ⟨h1, h2, h3, h4, h5, h6, h7, h8, h9, h10, h11, h12, h13, h14, h15, h16, h17, h18, h19, h20, h21, h22, h23, h24, h25, h26⟩ := h
  unfold C.grow
  (repeat' split) <;> constructor <;> (try simp) <;> first | omega | assumption
theorem C.pop_ok' {c : C} (h : c.ok) : ({ c with flies := c.flies.tail, tries := 0, ticks := 0, again := false } : C).ok := by
  obtain ⟨h1, h2, h3, h4, h5, h6, h7, h8, h9, h10, h11, h12, h13, h14, h15, h16, h17, h18, h19, h20, h21, h22, h23, h24, h25, h26⟩ := h
  constructor <;> (try simp) <;> first | omega | assumption
theorem C.pop_ok {c : C} (h : c.ok) : c.pop.ok := C.grow_ok (C.pop_ok' h)
theorem C.grow_flies (c : C) : c.grow.flies = c.flies := by unfold C.grow; (repeat' split) <;> rfl
theorem C.grow_waits (c : C) : c.grow.waits = c.waits := by unfold C.grow; (repeat' split) <;> rfl
theorem C.pop_flies (c : C) : c.pop.flies = c.flies.tail := by unfold C.pop; rw [C.grow_flies]
theorem C.pop_waits (c : C) : c.pop.waits = c.waits := by unfold C.pop; rw [C.grow_waits]
theorem C.ackLoop_ok (nr : Int) : ∀ (n : Nat) (c : C), c.ok → (C.ackLoop nr n c).ok
  | 0, _, h => h
  | n + 1, c, h => by
    unfold C.ackLoop
    split
    · exact C.ackLoop_ok nr n _ (C.pop_ok h)
    · exact h
theorem C.acked_ok {c : C} (h : c.ok) (nr : Int) : (c.acked nr).ok := by
  unfold C.acked
  split
  · exact h
  · exact C.ackLoop_ok nr _ _ h
theorem C.ackLoop_waits (nr : Int) : ∀ (n : Nat) (c : C), (C.ackLoop nr n c).waits = c.waits
  | 0, _ => rfl
  | n + 1, c => by
    unfold C.ackLoop
    split
    · rw [C.ackLoop_waits nr n, C.pop_waits]
    · rfl
theorem C.ackLoop_stop (nr : Int) (n : Nat) {c : C} (h : ¬ (0 < c.flies.length ∧ bef c.first nr = true)) : C.ackLoop nr n c = c := by
  cases n with
  | zero => rfl
  | succ n => rw [C.ackLoop, if_neg h]
theorem C.acked_waits (c : C) (nr : Int) : (c.acked nr).waits = c.waits := by
  unfold C.acked
  split
  · rfl
  · exact C.ackLoop_waits nr _ _

set_option maxHeartbeats 1000000 in
theorem acked_any (b : Nat) (c : C) (vw vf : Value) (nr : Int) (of : List Nat) (w : World) (hk : c.ok) (hb : Blk w b 114 (c.cells vw vf))
    (hf : Own w 9 1 vf c.flies.length (strs c.flies) of) :
    Calls Tryz.prog 76 #[.pointer (some ⟨b, 0, none⟩), .int .i64 nr] w fun e w' => e = .returned (.tuple #[]) ∧
      ∃ vf', Blk w' b 114 ((c.acked nr).cells vw vf') ∧ Own w' 9 1 vf' (c.acked nr).flies.length (strs (c.acked nr).flies) of ∧ Upd [b] w w' := by
  obtain ⟨ao, cap, rfl, hcap, hmx⟩ := hf.shape
  obtain ⟨n, hn⟩ : ∃ n, n = c.flies.length := ⟨_, rfl⟩
  have hl2 := hk.l2
  rw [← hn] at hb hcap hl2
  have HO := Lib.hid hf
  have HB := Lib.hid hb
  have HN := Lib.hid hn
  have h4 := hb.cell 4
  simp [C.cells] at h4
  have s1 := hk.s1
  have s2 := hk.s2
  have f1 : 0 ≤ c.first ∧ c.first < 65536 := by unfold C.first; omega
  have HK := Lib.hid hk
  clear hf hb hn hk
  by_cases t1 : bef nr c.first = true
  · have HG : Hid (c.acked nr = c) := by show _ = _; unfold C.acked; rw [if_pos (.inl t1)]
    go_enter Tryz.func76, Tryz.ntmps76
    go_wp2_with first
      | (go_at_call 72; refine (first_any b c vw ao n cap _ HN.out (by omega) HB.out).mono ?_; rintro e w' ⟨rfl, k, rfl⟩)
      | (go_at_call 98; refine (before_any _ _ _).mono ?_; rintro e w' ⟨rfl, rfl⟩)
    refine bodyPost_ret (results_none rfl _ _ _) rfl ⟨rfl, ?_⟩
    rw [HG.out, ← HN.out]
    exact ⟨_, HB.out.drewN k, (HN.out ▸ HO.out).drewN k, (Upd.refl _ _).drewN k⟩
  · have t1 : bef nr c.first = false := by simpa using t1
    by_cases t2 : bef c.sent nr = true
    · have HG : Hid (c.acked nr = c) := by show _ = _; unfold C.acked; rw [if_pos (.inr t2)]
      go_enter Tryz.func76, Tryz.ntmps76
      go_wp2_with first
        | (go_at_call 72; refine (first_any b c vw ao n cap _ HN.out (by omega) HB.out).mono ?_; rintro e w' ⟨rfl, k, rfl⟩)
        | (go_at_call 98; refine (before_any _ _ _).mono ?_; rintro e w' ⟨rfl, rfl⟩)
      refine bodyPost_ret (results_none rfl _ _ _) rfl ⟨rfl, ?_⟩
      rw [HG.out, ← HN.out]
      exact ⟨_, HB.out.drewN k, (HN.out ▸ HO.out).drewN k, (Upd.refl _ _).drewN k⟩
    · have t2 : bef c.sent nr = false := by simpa using t2
      have HG : Hid (c.acked nr = C.ackLoop nr c.flies.length c) := by show _ = _; unfold C.acked; rw [if_neg (by simp [t1, t2])]
      go_enter Tryz.func76, Tryz.ntmps76
      go_wp2_with first
        | (go_at_call 72; refine (first_any b c vw ao n cap _ HN.out (by omega) HB.out).mono ?_; rintro e w' ⟨rfl, k, rfl⟩)
        | (go_at_call 98; refine (before_any _ _ _).mono ?_; rintro e w' ⟨rfl, rfl⟩)
      go_loopg [] c.flies.length (fun m wr => ∃ c1 vf1, c1.ok ∧ C.ackLoop nr m c1 = c.acked nr ∧ c1.flies.length ≤ m ∧ Blk wr b 114 (c1.cells vw vf1) ∧ Own wr 9 1 vf1 c1.flies.length (strs c1.flies) of ∧ Upd [b] w wr)
      case atStart => exact ⟨c, _, HK.out, HG.out.symm, Nat.le_refl _, HN.out ▸ HB.out.drewN k, HO.out.drewN k, (Upd.refl _ _).drewN k⟩
      case round =>
        obtain ⟨c1, vf1, hk1, ha1, hm1, hb1, ho1, hu1⟩ := hrel
        clear t1 t2 h4 HB HN HO s1 s2 f1 hcap hmx hl2
        obtain ⟨ao1, cap1, rfl, hcap1, hmx1⟩ := ho1.shape
        obtain ⟨n1, hn1⟩ : ∃ n, n = c1.flies.length := ⟨_, rfl⟩
        have hl1 := hk1.l2
        rw [← hn1] at hb1 hcap1 hl1 hm1
        have g7 := hb1.cell 7
        have g11 := hb1.cell 11
        have g12 := hb1.cell 12
        have g13 := hb1.cell 13
        have gf := hb1.frozen
        simp [C.cells] at g7 g11 g12 g13
        have HN := Lib.hid hn1
        have HB := Lib.hid hb1
        have HO := Lib.hid ho1
        have HK1 := Lib.hid hk1
        have HA := Lib.hid ha1
        have HU := Lib.hid hu1
        have s1 := hk1.s1
        have s2 := hk1.s2
        have f1 : 0 ≤ c1.first ∧ c1.first < 65536 := by unfold C.first; omega
        clear hb1 ho1 hn1 hk1 ha1 hu1
        by_cases hp : 0 < n1
        · obtain ⟨g, off, cap2, hv, _⟩ := HO.out.form (by have := HN.out; omega)
          injection hv with hv1 _ hv3
          subst hv1 hv3
          have hnb : b ∉ of := HO.out.ne_blk HB.out (by decide)
          obtain ⟨n2, hn2⟩ : ∃ n2, n2 = n1 - 1 := ⟨_, rfl⟩
          have HC : Hid (Own wr 9 1 (.slice (if cap1 = 1 then some ⟨g, off, none⟩ else some ⟨g, off + 1, none⟩) (n1 - 1) (cap1 - 1)) c1.pop.flies.length (strs c1.pop.flies) of) := by
            have h1 := HO.out.cut (k := 1) (by have := HN.out; omega)
            simp only [Nat.one_mul] at h1
            rw [C.pop_flies, List.length_tail]
            have h2 : (strs c1.flies).drop 1 = strs c1.flies.tail := by simp [strs]
            rw [h2, ← HN.out] at h1
            rw [← HN.out]
            exact h1
          by_cases t3 : bef c1.first nr = true
          · have HA2 : Hid (C.ackLoop nr (gk - 1) c1.pop = c.acked nr) := by
              have h1 := HA.out
              have h2 := HN.out
              rw [show gk = (gk - 1) + 1 by omega, C.ackLoop, if_pos ⟨by omega, t3⟩] at h1
              exact h1
            go_wp2_with first
              | (go_at_call 72; refine (first_any b c1 vw (some ⟨g, off, none⟩) n1 cap1 _ HN.out (by omega) HB.out).mono ?_; rintro e w' ⟨rfl, k, rfl⟩)
              | (go_at_call 98; refine (before_any _ _ _).mono ?_; rintro e w' ⟨rfl, rfl⟩)
              | (go_at_call 99; fail)
            all_goals
              refine Calls.mono (grow_any b { c1 with flies := c1.flies.tail, tries := 0, ticks := 0, again := false } vw ?_ _ ?_ ?_) ?_
              rotate_left
              · exact C.pop_ok' HK1.out
              · apply Blk.of_eq
                · repeat (with_reducible first | exact HB.out | apply Blk.drewN | apply Blk.drew | apply Blk.set_)
                · rfl
              · rintro e w' ⟨rfl, hb2, hu2⟩
                go_wp2
                have hu3 : Upd [b] wr w' := by
                  refine Upd.trans ?_ hu2
                  repeat (with_reducible first | apply Upd.refl | apply Upd.drewN | apply Upd.drew | (refine Upd.setCell _ ?_ (by simp)))
                have ho3 := HC.out.upd hu3 (fun k hk => by simp; rintro rfl; exact hnb hk)
                go_roundg (gk - 1)
                case rel =>
                  refine ⟨c1.pop, _, C.pop_ok HK1.out, HA2.out, ?_, hb2, ?_, HU.out.trans hu3⟩
                  · rw [C.pop_flies, List.length_tail]; have := HN.out; omega
                  · first
                      | exact ho3
                      | (simp only [*, ↓reduceIte] at ho3 ⊢; exact ho3)
                case measure => omega
          · have HA2 : Hid (c.acked nr = c1) := by
              have h1 := HA.out
              rw [← h1]
              exact C.ackLoop_stop nr gk (by simp [t3])
            have t3 : bef c1.first nr = false := by simpa using t3
            go_wp2_with first
              | (go_at_call 72; refine (first_any b c1 vw (some ⟨g, off, none⟩) n1 cap1 _ HN.out (by omega) HB.out).mono ?_; rintro e w' ⟨rfl, k, rfl⟩)
              | (go_at_call 98; refine (before_any _ _ _).mono ?_; rintro e w' ⟨rfl, rfl⟩)
            go_end0
            refine ⟨rfl, ?_⟩
            rw [HA2.out, ← HN.out]
            exact ⟨_, HB.out.drewN k, (HN.out ▸ HO.out).drewN k, HU.out.drewN k⟩
        · have HA2 : Hid (c.acked nr = c1) := by
            have h1 := HA.out
            rw [← h1]
            exact C.ackLoop_stop nr gk (by rw [← HN.out]; simp [hp])
          obtain rfl : n1 = 0 := by omega
          go_wp2
          go_end0
          refine ⟨rfl, ?_⟩
          rw [HA2.out, ← HN.out]
          exact ⟨_, HB.out, (HN.out ▸ HO.out), HU.out⟩
end Go.Proofs.YtolfjfkkbhbbbaaGreat
