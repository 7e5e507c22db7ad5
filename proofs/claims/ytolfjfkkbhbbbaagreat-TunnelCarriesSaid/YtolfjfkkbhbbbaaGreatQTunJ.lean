/- A tunnel's end: what its methods do to it, as plain data. No program in sight. The walks of slices.Clone at ints, tape.New. The walks of a tunnel's anew, New. The walk of a tunnel's Open; two lists of values put together. -/
import Derived.Lib.Strings
import Derived.Lib.Walk
import Derived.Test.YtolfjfkkbhbbbaaGreatQTunC
import Derived.Test.YtolfjfkkbhbbbaaGreatQMsgH
import Derived.Test.YtolfjfkkbhbbbaaGreatQRely
import Derived.Test.YtolfjfkkbhbbbaaGreatQMsgA
import Derived.Test.YtolfjfkkbhbbbaaGreatQTapA
import Derived.Test.YtolfjfkkbhbbbaaGreatQLib
import Derived.Test.YtolfjfkkbhbbbaaGreatQStr
namespace Go.Proofs.YtolfjfkkbhbbbaaGreat
open Go.RowKit
set_option linter.unusedSimpArgs false
set_option linter.unusedVariables false

/-- The channel's window set. -/
def C.setW (c : C) (n : Int) : C := { c with window := n, mark := n, room := min c.room n }
theorem C.setW_ok {c : C} (h : c.ok) {n : Int} (h1 : 1 ≤ n) (h2 : n ≤ 64) : (c.setW n).ok := by
  obtain ⟨a1, a2, a3, a4, a5, a6, a7, a8, a9, a10, a11, a12, a13, a14, a15, a16, a17, a18, a19, a20, a21, a22, a23, a24, a25, a26⟩ := h
  constructor <;> simp only [C.setW] <;> first | assumption | omega
structure Tn.good (t : Tn) : Prop where
  nw : NewOk t.window t.queue t.retry t.wait 0
  secret : t.secret.size ≤ 60
def Tn.anew (t : Tn) : Tn := { t with way := C.new t.window t.queue t.retry t.wait 0 }
/-- What the peer says of itself, taken. -/
def Tn.heard (t : Tn) (l : List Av) : Tn :=
  { t with id := (numberAv l 9).1, peer := (findAv 7 l).1, to_ := (findAv 11 l).1, challenged := (findAv 11 l).2,
           way := if (numberAv l 10).2 = true ∧ 1 ≤ (numberAv l 10).1 ∧ (numberAv l 10).1 ≤ 64 then t.way.setW (numberAv l 10).1 else t.way }
def Tn.who (t : Tn) (l : List Av) : Tn × Bool := if (t.heard l).id = 0 then ((t.heard l).end_ 2, false) else (t.heard l, true)
def Tn.proves (t : Tn) (l : List Av) (by_ : Int) : Bool := (findAv 13 l).2 && decide ((findAv 13 l).1 = chapS by_ t.secret t.asked)
/-- Says these values, and a challenge, in a state. -/
def Tn.sayAsk (t : Tn) (st : Int) (l : List Av) : Tn :=
  ((({ t with state := st, since := 0 } : Tn).ask).1.send 0 (l ++ (({ t with state := st, since := 0 } : Tn).ask).2)).1
def Tn.opened1 (t : Tn) : Tn :=
  if t.challenged ≠ !decide (t.secret.size = 0) then t.end_ 4 else t.sayAsk 2 (t.about 2 ++ t.respond 2)
def Tn.opened (t : Tn) (l : List Av) : Tn := if (t.who l).2 = false then (t.who l).1 else (t.who l).1.opened1
def Tn.open1 (t : Tn) : Tn := ({ t with tape := Tp.after 8 t.tape, tie := tieOf (t.tape.str 8) } : Tn)
def Tn.open_ (t : Tn) : Tn × Int :=
  if t.state ≠ 0 then (t, 20) else (t.open1.sayAsk 1 (t.open1.about 1 ++ [txtAv 5 (t.tape.str 8)]), 0)
def Tn.replied1 (t : Tn) (l : List Av) : Tn :=
  if (t.secret.size = 0 ∧ ((findAv 13 l).2 = true ∨ t.challenged = true)) ∨ (t.secret.size ≠ 0 ∧ (t.challenged = false ∨ t.proves l 2 = false)) then t.end_ 4
  else (({ t with state := 3 } : Tn).send 0 (numAv 0 3 2 :: ({ t with state := 3 } : Tn).respond 3)).1
def Tn.replied (t : Tn) (l : List Av) : Tn := if (t.who l).2 = false then (t.who l).1 else (t.who l).1.replied1 l
def Tn.connected (t : Tn) (l : List Av) : Tn := if t.secret.size ≠ 0 ∧ t.proves l 3 = false then t.end_ 4 else { t with state := 3 }
/-- Is a kind one of calls' messages? -/
def isCallK (k : Int) : Bool := (needsOf k).isSome && decide (7 ≤ k)
def Tn.handle (t : Tn) (m : Cm) : Tn × List Cm :=
  if isCallK (kindOf m.l) = true then (if t.state ≠ 3 then (t, []) else (t, [⟨m.t, m.s, 0, 0, m.l⟩]))
  else if checkOf m.l ≠ 0 then (t.end_ 2, [])
  else if kindOf m.l = 1 ∧ t.state = 0 then (t.opened m.l, [])
  else if kindOf m.l = 2 ∧ t.state = 1 then (t.replied m.l, [])
  else if kindOf m.l = 3 ∧ t.state = 2 then (t.connected m.l, [])
  else if kindOf m.l = 4 then ({ t with state := 4 }, [])
  else (t, [])
/-- Whether the peer's opening goes ahead. -/
def Tn.yields (t : Tn) (m : Cm) : Tn × Bool :=
  if m.ns ≠ 0 ∨ (findAv 5 m.l).1.size ≠ 8 ∨ t.tie < tieOf (findAv 5 m.l).1 then (t, false)
  else if tieOf (findAv 5 m.l).1 = t.tie then ({ t with state := 4, told := true }, false)
  else ({ t.anew with state := 0 }, true)
/-- A message's body as the channel takes it. -/
def bodyM (b : ByteArray) (s : Int) : ByteArray := if num b 2 2 = 12 then ⟨#[]⟩ else be 2 s ++ b.extract 12 (num b 2 2).toNat
def Tn.hear (t : Tn) (m : Cm) (body : ByteArray) : Tn × List Cm :=
  if (t.way.take m.ns m.nr body).2 = [] then ({ t with quiet := 0, way := (t.way.take m.ns m.nr body).1 }, [])
  else ({ t with quiet := 0, way := (t.way.take m.ns m.nr body).1 } : Tn).handle m
def Tn.takeM (t : Tn) (m : Cm) (body : ByteArray) : Tn × List Cm :=
  if m.t ≠ t.cid ∧ (m.t ≠ 0 ∨ kindOf m.l ≠ 1 ∨ (t.state ≠ 0 ∧ t.state ≠ 1)) then (t, [])
  else if kindOf m.l = 1 ∧ t.state = 1 then (if (t.yields m).2 = false then ((t.yields m).1, []) else (t.yields m).1.hear m body)
  else t.hear m body
def Tn.take (t : Tn) (b : ByteArray) : Tn × List Cm :=
  if t.state = 4 then (t, []) else if (getM b t.secret).2 ≠ 0 then (t, []) else t.takeM (getM b t.secret).1 (bodyM b (getM b t.secret).1.s)
def Tn.tick (t : Tn) : Tn :=
  if t.state = 4 then t
  else if t.way.tick.dead = true then { t with way := t.way.tick, state := 4 }
  else if t.state = 1 ∨ t.state = 2 then
    (if 3 * t.hello ≤ t.since + 1 then { t with way := t.way.tick, since := t.since + 1, state := 4, told := true } else { t with way := t.way.tick, since := t.since + 1 })
  else if t.state ≠ 3 then { t with way := t.way.tick }
  else if t.hello ≤ t.quiet + 1 then (({ t with way := t.way.tick, quiet := 0 } : Tn).send 0 [numAv 0 6 2]).1
  else { t with way := t.way.tick, quiet := t.quiet + 1 }
/-- An item's bytes. -/
def sayM (id : Int) (i : Item) : ByteArray :=
  if i.body.size = 0 then rawOf id 0 i.ns i.nr ⟨#[]⟩ else rawOf id (byte i.body 0 * 256 + byte i.body 1) i.ns i.nr (i.body.extract 2 i.body.size)
def Tn.out (t : Tn) : Tn × List ByteArray :=
  if t.told = true then (t, []) else ({ t with told := decide (t.state = 4), way := t.way.out.1 }, t.way.out.2.map (sayM t.id))
end Go.Proofs.YtolfjfkkbhbbbaaGreat
namespace Go.Proofs.YtolfjfkkbhbbbaaGreat
open Go.RowKit
set_option linter.unusedSimpArgs false
set_option linter.unusedVariables false
set_option maxRecDepth 20000

theorem info_int : (Tryz.prog.info? 3).map (fun i => (i.zero, i.size, i.bytes)) = some (some (.int .i64 0), 1, 8) := by kernel_rfl
theorem IntsAt.rd {w : World} {v : Value} {l : List Int} (h : IntsAt w v l) : Rd w 1 v l.length (l.map (Value.int .i64)) := by
  obtain ⟨ao, cap, rfl, h1, h2, h3⟩ := h
  refine ⟨ao, cap, rfl, h1, h2, by simp, ?_, fun hn => ?_⟩
  · intro u hu
    simp only [List.mem_map] at hu
    obtain ⟨x, _, rfl⟩ := hu
    rfl
  · obtain ⟨q, rfl, hq⟩ := h3 0 l[0] (by simp)
    refine ⟨q, rfl, fun j u hj => ?_⟩
    rw [List.getElem?_map] at hj
    cases hx : l[j]? with
    | none => rw [hx] at hj; simp at hj
    | some x =>
      rw [hx] at hj
      simp at hj
      obtain ⟨q', hq', hc⟩ := h3 j x hx
      cases hq'
      rw [hc, hj]

set_option maxHeartbeats 400000 in
theorem cloneInts_any (l : List Int) (v : Value) (w : World) (hl : IntsAt w v l) (hs : l.length ≤ 1000000) :
    Calls Tryz.prog 45 #[v] w fun e w' => ∃ u own, e = .returned u ∧ Own w' 3 1 u l.length (l.map (Value.int .i64)) own ∧ (∀ k, k ∈ own → w.heap.size ≤ k) ∧ Upd [] w w' := by
  obtain ⟨i0, hi, hz0, hz1, hz2⟩ := info_parts info_int
  have RL := Lib.hid hl.rd
  obtain ⟨ao, cap, rfl, h1, h2, h3⟩ := id hl
  obtain ⟨n, hn⟩ : ∃ n, n = l.length := ⟨_, rfl⟩
  rw [← hn] at h1 hs
  have HN := Lib.hid hn
  simp only [← hn] at RL ⊢
  simp only [maxLen] at h2
  cases ao with
  | none =>
    have h0 : n = 0 := by
      rcases Nat.eq_zero_or_pos n with h | h
      · exact h
      · obtain ⟨q, hq, _⟩ := h3 0 l[0] (by simp)
        cases hq
    have hl0 : l = [] := List.eq_nil_of_length_eq_zero (by omega)
    clear h3 hl hn
    subst h0 hl0
    have heq := fun W : World => Lib.run_eql_slice_nil (P := Tryz.prog) W 33 3 none 0 cap 0 0 Tryz.underlying33
    go_enter Tryz.func45, Tryz.ntmps45
    go_wp2_with fail
    go_ret
    exact ⟨_, [], rfl, by simpa using Own.nil _ _ _, by simp, Upd.refl _ _⟩
  | some q =>
    clear h3 hl hn
    have HO : Hid (Own (w.alloc (.cells #[] 3)) 3 1 (.slice (some ⟨w.heap.size, 0, none⟩) 0 0) 0 [] [w.heap.size]) := ⟨by simp, .inr ⟨w.heap.size, 0, 0, #[], rfl, rfl, Blk.new _ _ _, by simp, by simp, by simp, by simp⟩⟩
    have heq := fun W : World => Lib.run_eql_slice_nil (P := Tryz.prog) W 33 3 (some q) n cap 0 0 Tryz.underlying33
    have HR : Hid (Rd (w.alloc (.cells #[] 3)) 1 (.slice (some q) n cap) n (l.map (Value.int .i64))) := RL.out.upd ((Upd.refl _ _).alloc _)
    go_enter Tryz.func45, Tryz.ntmps45
    go_wp2_with (first
      | (at_builtin; refine wpList_append_Rd _ rfl (.tmp 5) (.tmp 6) 33 rfl 3 i0 _ 1 8 Tryz.underlying33 hi hz0 hz1 hz2 rfl (by decide) _ 0 _ _ (by simp [Act.eval]) HO.out _ n (l.map (Value.int .i64)) (by simp [Act.eval]) HR.out (by simp only [maxLen]; omega) (by omega) ?_; intro ao1 cap1 w5 own1 ho1 hin1 hu5; have HO1 := Lib.hid ho1; have HIN1 := Lib.hid hin1; have HU5 := Lib.hid hu5; clear ho1 hin1 hu5; generalize Value.slice ao1 (0 + n) cap1 = v5 at *))
    go_ret
    refine ⟨_, own1, rfl, ?_, fun k hk => ?_, ?_⟩
    · have h := HO1.out
      simpa using h
    · rcases HIN1.out k hk with h | h
      · simp at h; omega
      · simp at h; omega
    · exact ((Upd.refl [] w).alloc _).trans' HU5.out (fun y hy => .inr (by simp at hy; omega))

structure TapeNew (w : World) (l : List Int) (e : Ending) (w' : World) : Prop where
  ex : ∃ b own, e = .returned (.pointer (some ⟨b, 0, none⟩)) ∧ TpAt w' b ⟨l, 0⟩ own ∧ ∀ k, k ∈ own → w.heap.size ≤ k
  upd : Upd [] w w'
set_option maxHeartbeats 400000 in
theorem tapeNew_any (l : List Int) (v : Value) (w : World) (hl : IntsAt w v l) (hs : l.length ≤ 1000000) (hr : ∀ x ∈ l, -9223372036854775808 ≤ x ∧ x < 9223372036854775808) :
    Calls Tryz.prog 19 #[v] w (TapeNew w l) := by
  have HC := Lib.hid (cloneInts_any l v w hl hs)
  have HR := Lib.hid hr
  obtain ⟨ao, cap, rfl, -, -, -⟩ := hl
  have HLN : Hid (∃ ln, ln = l.length) := ⟨_, rfl⟩
  obtain ⟨ln, hln⟩ := HLN.out
  have HL := Lib.hid hln
  rw [← hln]
  simp only [← hln] at HC
  clear hs hr HLN hln
  go_enter Tryz.func19, Tryz.ntmps19
  go_wp2_with fail
  refine HC.out.mono ?_
  rintro e w1 ⟨u, own, rfl, ho, hin, hu⟩
  obtain ⟨ao1, cap1, rfl, _, _⟩ := ho.shape
  have HO := Lib.hid ho
  have HIN := Lib.hid hin
  have HU := Lib.hid hu
  clear ho hin hu HC
  go_wp2_with fail
  go_ret
  refine ⟨⟨_, _, rfl, ⟨⟨_, own, Blk.new _ _ _, by rw [← HL.out]; exact HO.out.alloc _, rfl⟩, Int.le_refl _, HR.out⟩, fun k hk => ?_⟩, HU.out.alloc _⟩
  simp only [List.mem_cons] at hk
  rcases hk with rfl | hk
  · exact HU.out.size
  · exact HIN.out k hk
end Go.Proofs.YtolfjfkkbhbbbaaGreat
namespace Go.Proofs.YtolfjfkkbhbbbaaGreat
open Go.RowKit
set_option linter.unusedSimpArgs false
set_option linter.unusedVariables false
set_option maxRecDepth 100000

structure AnewEnd (w : World) (b : Nat) (t : Tn) (vd : Value) (e : Ending) (w' : World) : Prop where
  e : e = .returned (.int .i64 0)
  ex : ∃ g, Blk w' b 70 (t.cells vd (.pointer (some ⟨g, 0, none⟩))) ∧ CtlAt w' g (C.new t.window t.queue t.retry t.wait 0) [g] ∧ w.heap.size ≤ g
  upd : Upd [b] w w'
def anwA (w : World) (c : C) (vs : List Value) (W : World) : Prop := match vs with
  | [] => W.heap.size = w.heap.size ∧ Upd [] w W
  | [_] => CtlAt W w.heap.size c [w.heap.size] ∧ Upd [] w W
  | _ => False
set_option maxHeartbeats 2000000 in
theorem tanew_any {w : World} {b : Nat} {t : Tn} {vd vw : Value} (hb : Blk w b 70 (t.cells vd vw)) (nw : NewOk t.window t.queue t.retry t.wait 0) :
    Calls Tryz.prog 44 #[.pointer (some ⟨b, 0, none⟩)] w (AnewEnd w b t vd) := by
  have HB := Lib.hid hb
  have HN := Lib.hid nw
  have HW : Hid (∃ g, g = w.heap.size) := ⟨_, rfl⟩
  clear hb nw
  go_enter Tryz.func44, Tryz.ntmps44
  go_wp2_with fail
  refine wp_region_chain [some (.pointer (some ⟨b, 0, none⟩)), some (.pointer (some ⟨b, 0, none⟩)), some (.pointer (some ⟨b, 0, none⟩)), some (.pointer (some ⟨b, 3, none⟩)), some (.int .i64 t.window), some (.pointer (some ⟨b, 0, none⟩)), some (.pointer (some ⟨b, 0, none⟩)), some (.pointer (some ⟨b, 0, none⟩)), some (.pointer (some ⟨b, 4, none⟩)), some (.int .i64 t.queue), some (.pointer (some ⟨b, 0, none⟩)), some (.pointer (some ⟨b, 0, none⟩)), some (.pointer (some ⟨b, 0, none⟩)), some (.pointer (some ⟨b, 5, none⟩)), some (.int .i64 t.retry), some (.pointer (some ⟨b, 0, none⟩)), some (.pointer (some ⟨b, 0, none⟩)), some (.pointer (some ⟨b, 0, none⟩)), some (.pointer (some ⟨b, 6, none⟩)), some (.int .i64 t.wait), some (.tuple #[.pointer (some ⟨w.heap.size, 0, none⟩), .int .i64 0]), some (.tuple #[.pointer (some ⟨w.heap.size, 0, none⟩), .int .i64 0]), some (.pointer (some ⟨w.heap.size, 0, none⟩)), some (.int .i64 0), some (.pointer (some ⟨w.heap.size, 0, none⟩)), some (.int .i64 0)] [20] (anwA w (C.new t.window t.queue t.retry t.wait 0)) [(0, 0), (0, 0), (0, 0), (0, 0), (0, 0), (0, 0), (0, 0), (0, 0), (0, 0), (0, 0), (0, 0), (0, 0), (0, 0), (0, 0), (0, 0), (0, 0), (0, 0), (0, 0), (0, 0), (0, 0), (0, 0), (1, 1), (1, 1), (1, 1), (1, 1), (1, 1)] (by kernel_rfl) (by kernel_rfl) (by kernel_rfl) (by kernel_rfl) (by kernel_rfl) (by kernel_rfl) (⟨rfl, (Upd.refl [] _).drew⟩) ?_ ?_
  · refine StepsC.cons ?_ (StepsC.cons ?_ (StepsC.cons ?_ (StepsC.cons ?_ (StepsC.cons ?_ (StepsC.cons ?_ (StepsC.cons ?_ (StepsC.cons ?_ (StepsC.cons ?_ (StepsC.cons ?_ (StepsC.cons ?_ (StepsC.cons ?_ (StepsC.cons ?_ (StepsC.cons ?_ (StepsC.cons ?_ (StepsC.cons ?_ (StepsC.cons ?_ (StepsC.cons ?_ (StepsC.cons ?_ (StepsC.cons ?_ (StepsC.cons ?_ (StepsC.cons ?_ (StepsC.cons ?_ (StepsC.cons ?_ (StepsC.cons ?_ (StepsC.cons ?_ StepsC.nil)))))))))))))))))))))))))
    · refine chain_is _ (.inl rfl) ⟨_, rfl⟩ (by kernel_rfl) rfl ?_
      intro a W kst l0 h0 A0 hF hD
      have k0 : kst = 0 := Nat.le_antisymm h0 l0
      subst k0
      clear l0 h0
      have e0 : a.tmps[0]?.getD undef = _ := (ev a 0).symm.trans (hF 0 (by kernel_rfl))
      clear hF hD
      go_simp
    · refine chain_is _ (.inl rfl) ⟨_, rfl⟩ (by kernel_rfl) rfl ?_
      intro a W kst l0 h0 A0 hF hD
      have k0 : kst = 0 := Nat.le_antisymm h0 l0
      subst k0
      clear l0 h0
      have e6 : a.tmps[6]?.getD undef = .pointer (some ⟨b, 0, none⟩) := (ev a 6).symm.trans (hD _ (Array.mem_of_getElem? (i := 0) rfl) rfl)
      clear hF hD
      go_simp
    · refine chain_is _ (.inl rfl) ⟨_, rfl⟩ (by kernel_rfl) rfl ?_
      intro a W kst l0 h0 A0 hF hD
      have k0 : kst = 0 := Nat.le_antisymm h0 l0
      subst k0
      clear l0 h0
      have e7 : a.tmps[7]?.getD undef = .pointer (some ⟨b, 0, none⟩) := (ev a 7).symm.trans (hD _ (Array.mem_of_getElem? (i := 0) rfl) rfl)
      clear hF hD
      go_simp
    · refine chain_is _ (.inl rfl) ⟨_, rfl⟩ (by kernel_rfl) rfl ?_
      intro a W kst l0 h0 A0 hF hD
      have k0 : kst = 0 := Nat.le_antisymm h0 l0
      subst k0
      clear l0 h0
      have e8 : a.tmps[8]?.getD undef = .pointer (some ⟨b, 0, none⟩) := (ev a 8).symm.trans (hD _ (Array.mem_of_getElem? (i := 0) rfl) rfl)
      clear hF hD
      go_simp
    · refine chain_is _ (.inl rfl) ⟨_, rfl⟩ (by kernel_rfl) rfl ?_
      intro a W kst l0 h0 A0 hF hD
      have k0 : kst = 0 := Nat.le_antisymm h0 l0
      subst k0
      clear l0 h0
      have e9 : a.tmps[9]?.getD undef = .pointer (some ⟨b, 3, none⟩) := (ev a 9).symm.trans (hD _ (Array.mem_of_getElem? (i := 0) rfl) rfl)
      clear hF hD
      have hu : Upd [] w W := A0.2
      have g2 := (HB.out.upd hu (by simp)).cell 3
      simp [Tn.cells] at g2
      go_simp
    · refine chain_is _ (.inl rfl) ⟨_, rfl⟩ (by kernel_rfl) rfl ?_
      intro a W kst l0 h0 A0 hF hD
      have k0 : kst = 0 := Nat.le_antisymm h0 l0
      subst k0
      clear l0 h0
      have e0 : a.tmps[0]?.getD undef = _ := (ev a 0).symm.trans (hF 0 (by kernel_rfl))
      clear hF hD
      go_simp
    · refine chain_is _ (.inl rfl) ⟨_, rfl⟩ (by kernel_rfl) rfl ?_
      intro a W kst l0 h0 A0 hF hD
      have k0 : kst = 0 := Nat.le_antisymm h0 l0
      subst k0
      clear l0 h0
      have e11 : a.tmps[11]?.getD undef = .pointer (some ⟨b, 0, none⟩) := (ev a 11).symm.trans (hD _ (Array.mem_of_getElem? (i := 0) rfl) rfl)
      clear hF hD
      go_simp
    · refine chain_is _ (.inl rfl) ⟨_, rfl⟩ (by kernel_rfl) rfl ?_
      intro a W kst l0 h0 A0 hF hD
      have k0 : kst = 0 := Nat.le_antisymm h0 l0
      subst k0
      clear l0 h0
      have e12 : a.tmps[12]?.getD undef = .pointer (some ⟨b, 0, none⟩) := (ev a 12).symm.trans (hD _ (Array.mem_of_getElem? (i := 0) rfl) rfl)
      clear hF hD
      go_simp
    · refine chain_is _ (.inl rfl) ⟨_, rfl⟩ (by kernel_rfl) rfl ?_
      intro a W kst l0 h0 A0 hF hD
      have k0 : kst = 0 := Nat.le_antisymm h0 l0
      subst k0
      clear l0 h0
      have e13 : a.tmps[13]?.getD undef = .pointer (some ⟨b, 0, none⟩) := (ev a 13).symm.trans (hD _ (Array.mem_of_getElem? (i := 0) rfl) rfl)
      clear hF hD
      go_simp
    · refine chain_is _ (.inl rfl) ⟨_, rfl⟩ (by kernel_rfl) rfl ?_
      intro a W kst l0 h0 A0 hF hD
      have k0 : kst = 0 := Nat.le_antisymm h0 l0
      subst k0
      clear l0 h0
      have e14 : a.tmps[14]?.getD undef = .pointer (some ⟨b, 4, none⟩) := (ev a 14).symm.trans (hD _ (Array.mem_of_getElem? (i := 0) rfl) rfl)
      clear hF hD
      have hu : Upd [] w W := A0.2
      have g2 := (HB.out.upd hu (by simp)).cell 4
      simp [Tn.cells] at g2
      go_simp
    · refine chain_is _ (.inl rfl) ⟨_, rfl⟩ (by kernel_rfl) rfl ?_
      intro a W kst l0 h0 A0 hF hD
      have k0 : kst = 0 := Nat.le_antisymm h0 l0
      subst k0
      clear l0 h0
      have e0 : a.tmps[0]?.getD undef = _ := (ev a 0).symm.trans (hF 0 (by kernel_rfl))
      clear hF hD
      go_simp
    · refine chain_is _ (.inl rfl) ⟨_, rfl⟩ (by kernel_rfl) rfl ?_
      intro a W kst l0 h0 A0 hF hD
      have k0 : kst = 0 := Nat.le_antisymm h0 l0
      subst k0
      clear l0 h0
      have e16 : a.tmps[16]?.getD undef = .pointer (some ⟨b, 0, none⟩) := (ev a 16).symm.trans (hD _ (Array.mem_of_getElem? (i := 0) rfl) rfl)
      clear hF hD
      go_simp
    · refine chain_is _ (.inl rfl) ⟨_, rfl⟩ (by kernel_rfl) rfl ?_
      intro a W kst l0 h0 A0 hF hD
      have k0 : kst = 0 := Nat.le_antisymm h0 l0
      subst k0
      clear l0 h0
      have e17 : a.tmps[17]?.getD undef = .pointer (some ⟨b, 0, none⟩) := (ev a 17).symm.trans (hD _ (Array.mem_of_getElem? (i := 0) rfl) rfl)
      clear hF hD
      go_simp
    · refine chain_is _ (.inl rfl) ⟨_, rfl⟩ (by kernel_rfl) rfl ?_
      intro a W kst l0 h0 A0 hF hD
      have k0 : kst = 0 := Nat.le_antisymm h0 l0
      subst k0
      clear l0 h0
      have e18 : a.tmps[18]?.getD undef = .pointer (some ⟨b, 0, none⟩) := (ev a 18).symm.trans (hD _ (Array.mem_of_getElem? (i := 0) rfl) rfl)
      clear hF hD
      go_simp
    · refine chain_is _ (.inl rfl) ⟨_, rfl⟩ (by kernel_rfl) rfl ?_
      intro a W kst l0 h0 A0 hF hD
      have k0 : kst = 0 := Nat.le_antisymm h0 l0
      subst k0
      clear l0 h0
      have e19 : a.tmps[19]?.getD undef = .pointer (some ⟨b, 5, none⟩) := (ev a 19).symm.trans (hD _ (Array.mem_of_getElem? (i := 0) rfl) rfl)
      clear hF hD
      have hu : Upd [] w W := A0.2
      have g2 := (HB.out.upd hu (by simp)).cell 5
      simp [Tn.cells] at g2
      go_simp
    · refine chain_is _ (.inl rfl) ⟨_, rfl⟩ (by kernel_rfl) rfl ?_
      intro a W kst l0 h0 A0 hF hD
      have k0 : kst = 0 := Nat.le_antisymm h0 l0
      subst k0
      clear l0 h0
      have e0 : a.tmps[0]?.getD undef = _ := (ev a 0).symm.trans (hF 0 (by kernel_rfl))
      clear hF hD
      go_simp
    · refine chain_is _ (.inl rfl) ⟨_, rfl⟩ (by kernel_rfl) rfl ?_
      intro a W kst l0 h0 A0 hF hD
      have k0 : kst = 0 := Nat.le_antisymm h0 l0
      subst k0
      clear l0 h0
      have e21 : a.tmps[21]?.getD undef = .pointer (some ⟨b, 0, none⟩) := (ev a 21).symm.trans (hD _ (Array.mem_of_getElem? (i := 0) rfl) rfl)
      clear hF hD
      go_simp
    · refine chain_is _ (.inl rfl) ⟨_, rfl⟩ (by kernel_rfl) rfl ?_
      intro a W kst l0 h0 A0 hF hD
      have k0 : kst = 0 := Nat.le_antisymm h0 l0
      subst k0
      clear l0 h0
      have e22 : a.tmps[22]?.getD undef = .pointer (some ⟨b, 0, none⟩) := (ev a 22).symm.trans (hD _ (Array.mem_of_getElem? (i := 0) rfl) rfl)
      clear hF hD
      go_simp
    · refine chain_is _ (.inl rfl) ⟨_, rfl⟩ (by kernel_rfl) rfl ?_
      intro a W kst l0 h0 A0 hF hD
      have k0 : kst = 0 := Nat.le_antisymm h0 l0
      subst k0
      clear l0 h0
      have e23 : a.tmps[23]?.getD undef = .pointer (some ⟨b, 0, none⟩) := (ev a 23).symm.trans (hD _ (Array.mem_of_getElem? (i := 0) rfl) rfl)
      clear hF hD
      go_simp
    · refine chain_is _ (.inl rfl) ⟨_, rfl⟩ (by kernel_rfl) rfl ?_
      intro a W kst l0 h0 A0 hF hD
      have k0 : kst = 0 := Nat.le_antisymm h0 l0
      subst k0
      clear l0 h0
      have e24 : a.tmps[24]?.getD undef = .pointer (some ⟨b, 6, none⟩) := (ev a 24).symm.trans (hD _ (Array.mem_of_getElem? (i := 0) rfl) rfl)
      clear hF hD
      have hu : Upd [] w W := A0.2
      have g2 := (HB.out.upd hu (by simp)).cell 6
      simp [Tn.cells] at g2
      go_simp
    · refine chain_call (.inl rfl) ⟨_, rfl⟩ (by kernel_rfl) ?_
      intro a W kst l0 h0 A0 hF hD
      have k0 : kst = 0 := Nat.le_antisymm h0 l0
      subst k0
      clear l0 h0
      have e10 : a.tmps[10]?.getD undef = .int .i64 t.window := (ev a 10).symm.trans (hD _ (Array.mem_of_getElem? (i := 0) rfl) rfl)
      have e15 : a.tmps[15]?.getD undef = .int .i64 t.queue := (ev a 15).symm.trans (hD _ (Array.mem_of_getElem? (i := 1) rfl) rfl)
      have e20 : a.tmps[20]?.getD undef = .int .i64 t.retry := (ev a 20).symm.trans (hD _ (Array.mem_of_getElem? (i := 2) rfl) rfl)
      have e25 : a.tmps[25]?.getD undef = .int .i64 t.wait := (ev a 25).symm.trans (hD _ (Array.mem_of_getElem? (i := 3) rfl) rfl)
      clear hF hD
      obtain ⟨hz, hu⟩ := A0
      refine ⟨_, _, by (go_simp; first | done | rfl | exact ⟨rfl, rfl⟩), ?_⟩
      refine (new_at HN.out W).mono ?_
      rintro e wq ⟨rfl, h1, h2, h3⟩
      rw [hz] at h1 ⊢
      exact ⟨_, rfl, rfl, h1, hu.trans h2⟩
    · refine chain_is _ (.inl rfl) ⟨_, rfl⟩ (by kernel_rfl) rfl ?_
      intro a W kst l0 h0 A0 hF hD
      have k0 : kst = 1 := Nat.le_antisymm h0 l0
      subst k0
      clear l0 h0
      have e26 : a.tmps[26]?.getD undef = .tuple #[.pointer (some ⟨w.heap.size, 0, none⟩), .int .i64 0] := (ev a 26).symm.trans (hD _ (Array.mem_of_getElem? (i := 0) rfl) rfl)
      clear hF hD
      go_simp
    · refine chain_is _ (.inl rfl) ⟨_, rfl⟩ (by kernel_rfl) rfl ?_
      intro a W kst l0 h0 A0 hF hD
      have k0 : kst = 1 := Nat.le_antisymm h0 l0
      subst k0
      clear l0 h0
      have e5 : a.tmps[5]?.getD undef = .tuple #[.pointer (some ⟨w.heap.size, 0, none⟩), .int .i64 0] := (ev a 5).symm.trans (hD _ (Array.mem_of_getElem? (i := 0) rfl) rfl)
      clear hF hD
      go_simp
    · refine chain_is _ (.inl rfl) ⟨_, rfl⟩ (by kernel_rfl) rfl ?_
      intro a W kst l0 h0 A0 hF hD
      have k0 : kst = 1 := Nat.le_antisymm h0 l0
      subst k0
      clear l0 h0
      have e5 : a.tmps[5]?.getD undef = .tuple #[.pointer (some ⟨w.heap.size, 0, none⟩), .int .i64 0] := (ev a 5).symm.trans (hD _ (Array.mem_of_getElem? (i := 0) rfl) rfl)
      clear hF hD
      go_simp
    · refine chain_is _ (.inl rfl) ⟨_, rfl⟩ (by kernel_rfl) rfl ?_
      intro a W kst l0 h0 A0 hF hD
      have k0 : kst = 1 := Nat.le_antisymm h0 l0
      subst k0
      clear l0 h0
      have e27 : a.tmps[27]?.getD undef = .pointer (some ⟨w.heap.size, 0, none⟩) := (ev a 27).symm.trans (hD _ (Array.mem_of_getElem? (i := 0) rfl) rfl)
      clear hF hD
      go_simp
    · refine chain_is _ (.inl rfl) ⟨_, rfl⟩ (by kernel_rfl) rfl ?_
      intro a W kst l0 h0 A0 hF hD
      have k0 : kst = 1 := Nat.le_antisymm h0 l0
      subst k0
      clear l0 h0
      have e28 : a.tmps[28]?.getD undef = .int .i64 0 := (ev a 28).symm.trans (hD _ (Array.mem_of_getElem? (i := 0) rfl) rfl)
      clear hF hD
      go_simp
  intro vals W hv hA
  have v0 : vals 0 = .pointer (some ⟨b, 0, none⟩) := hv 0 (by decide)
  have v1 : vals 1 = .pointer (some ⟨b, 0, none⟩) := hv 1 (by decide)
  have v2 : vals 2 = .pointer (some ⟨b, 0, none⟩) := hv 2 (by decide)
  have v3 : vals 3 = .pointer (some ⟨b, 3, none⟩) := hv 3 (by decide)
  have v4 : vals 4 = .int .i64 t.window := hv 4 (by decide)
  have v5 : vals 5 = .pointer (some ⟨b, 0, none⟩) := hv 5 (by decide)
  have v6 : vals 6 = .pointer (some ⟨b, 0, none⟩) := hv 6 (by decide)
  have v7 : vals 7 = .pointer (some ⟨b, 0, none⟩) := hv 7 (by decide)
  have v8 : vals 8 = .pointer (some ⟨b, 4, none⟩) := hv 8 (by decide)
  have v9 : vals 9 = .int .i64 t.queue := hv 9 (by decide)
  have v10 : vals 10 = .pointer (some ⟨b, 0, none⟩) := hv 10 (by decide)
  have v11 : vals 11 = .pointer (some ⟨b, 0, none⟩) := hv 11 (by decide)
  have v12 : vals 12 = .pointer (some ⟨b, 0, none⟩) := hv 12 (by decide)
  have v13 : vals 13 = .pointer (some ⟨b, 5, none⟩) := hv 13 (by decide)
  have v14 : vals 14 = .int .i64 t.retry := hv 14 (by decide)
  have v15 : vals 15 = .pointer (some ⟨b, 0, none⟩) := hv 15 (by decide)
  have v16 : vals 16 = .pointer (some ⟨b, 0, none⟩) := hv 16 (by decide)
  have v17 : vals 17 = .pointer (some ⟨b, 0, none⟩) := hv 17 (by decide)
  have v18 : vals 18 = .pointer (some ⟨b, 6, none⟩) := hv 18 (by decide)
  have v19 : vals 19 = .int .i64 t.wait := hv 19 (by decide)
  have v20 : vals 20 = .tuple #[.pointer (some ⟨w.heap.size, 0, none⟩), .int .i64 0] := hv 20 (by decide)
  have v21 : vals 21 = .tuple #[.pointer (some ⟨w.heap.size, 0, none⟩), .int .i64 0] := hv 21 (by decide)
  have v22 : vals 22 = .pointer (some ⟨w.heap.size, 0, none⟩) := hv 22 (by decide)
  have v23 : vals 23 = .int .i64 0 := hv 23 (by decide)
  have v24 : vals 24 = .pointer (some ⟨w.heap.size, 0, none⟩) := hv 24 (by decide)
  have v25 : vals 25 = .int .i64 0 := hv 25 (by decide)
  clear hv
  obtain ⟨k1, k2⟩ := hA
  simp only [putAll, Act.put, Nat.zero_add, Nat.reduceAdd, v0, v1, v2, v3, v4, v5, v6, v7, v8, v9, v10, v11, v12, v13, v14, v15, v16, v17, v18, v19, v20, v21, v22, v23, v24, v25, List.setIfInBounds_toArray, List.set_cons_zero, List.set_cons_succ]
  clear v0 v1 v2 v3 v4 v5 v6 v7 v8 v9 v10 v11 v12 v13 v14 v15 v16 v17 v18 v19 v20 v21 v22 v23 v24 v25
  have hb1 := HB.out.upd k2 (by simp)
  have c9 := hb1.cell 9
  have f9 := hb1.frozen 9
  simp [Tn.cells] at c9
  have HK := Lib.hid (And.intro k1 (And.intro k2 hb1))
  have hne : w.heap.size ≠ b := by have := HB.out.lt; omega
  have HNE := Lib.hid hne
  obtain ⟨g, hg⟩ : ∃ g, w.heap.size = g := ⟨_, rfl⟩
  rw [hg] at HK HNE
  rw [hg]
  have HG := Lib.hid hg
  clear k1 k2 hb1 hne hg
  go_wp2_with fail
  go_ret
  obtain ⟨k1, k2, k3⟩ := HK.out
  refine ⟨rfl, ⟨g, (k3.set_ 9 _).of_eq rfl, k1.upd ((Upd.refl [b] W).setCell _ (.inl (by simp))) (by simp; exact HNE.out), Nat.le_of_eq HG.out⟩, (k2.mono (by simp)).setCell _ (.inl (by simp))⟩

def Tn.new (name secret : ByteArray) (cid window queue retry wait hello : Int) (tp : Tp) : Tn :=
  ⟨name, secret, cid, window, queue, retry, wait, hello, tp, C.new window queue retry wait 0, 0, 0, ⟨#[]⟩, 0, ⟨#[]⟩, ⟨#[]⟩, false, 0, 0, false⟩
structure TunNew (w : World) (od : List Nat) (t : Tn) (e : Ending) (w' : World) : Prop where
  ex : ∃ b own, e = .returned (.tuple #[.pointer (some ⟨b, 0, none⟩), .int .i64 0]) ∧ TunAt w' b t own ∧ Grew w od own
  upd : Upd [] w w'
def nwA (w : World) (g : Nat) (ccs cs : Array Value) (vs : List Value) (W : World) : Prop := Blk W g 37 ccs ∧ Blk W (g + 1) 70 cs ∧ Upd [] w W
set_option maxHeartbeats 4000000 in
theorem tnew_any (name secret : ByteArray) (cid window queue retry wait hello : Int) (h1 : name.size ≠ 0) (h2 : name.size ≤ 40) (h3 : secret.size ≤ 60) (h4 : 1 ≤ cid) (h5 : cid ≤ 65535) (h6 : 1 ≤ hello) (h7 : hello ≤ 1000)
    (nw : NewOk window queue retry wait 0) {w : World} {bd : Nat} {tp : Tp} {od : List Nat} (hd : TpAt w bd tp od) :
    Calls Tryz.prog 17 #[.agg #[.string name, .string secret, .int .i64 cid, .int .i64 window, .int .i64 queue, .int .i64 retry, .int .i64 wait, .int .i64 hello], .pointer (some ⟨bd, 0, none⟩)] w
      (TunNew w od (Tn.new name secret cid window queue retry wait hello tp)) := by
  have e1 := str_empty_f h1
  have HD := Lib.hid hd
  have HN := Lib.hid nw
  clear h1 nw hd
  go_enter Tryz.func17, Tryz.ntmps17
  go_wp2_with fail
  obtain ⟨ccs, hccs⟩ : ∃ ccs : Array Value, #[.string name, .string secret, .int .i64 cid, .int .i64 window, .int .i64 queue, .int .i64 retry, .int .i64 wait, .int .i64 hello] = ccs := ⟨_, rfl⟩
  obtain ⟨cs, hcs⟩ : ∃ cs : Array Value, (Tn.new name secret cid window queue retry wait hello tp).cells (.pointer (some ⟨bd, 0, none⟩)) (.pointer none) = cs := ⟨_, rfl⟩
  have HCC := Lib.hid hccs
  have HCS := Lib.hid hcs
  refine gen_world (fun V => nwA w w.heap.size ccs cs [] V) ?_ ?_
  · rw [← hccs, ← hcs]
    have hz : (w.alloc (Obj.cells #[.string name, .string secret, .int .i64 cid, .int .i64 window, .int .i64 queue, .int .i64 retry, .int .i64 wait, .int .i64 hello] 37)).heap.size = w.heap.size + 1 := by simp
    refine ⟨(Blk.new _ _ _).alloc _, ?_, ((Upd.refl [] w).alloc _).alloc _⟩
    rw [← hz]
    exact Blk.new _ _ _
  intro V hV
  have HV := Lib.hid hV
  obtain ⟨g, hg⟩ : ∃ g, w.heap.size = g := ⟨_, rfl⟩
  have HG := Lib.hid hg
  rw [hg] at HV ⊢
  clear hg hccs hcs hV
  refine wp_region_chain [some (.pointer (some ⟨g + 1, 0, none⟩)), some (.pointer (some ⟨g + 1, 0, none⟩)), some (.pointer (some ⟨g, 0, none⟩)), some (.string name), some (.string name), some (.pointer (some ⟨g, 1, none⟩)), some (.string secret), some (.string secret), some (.pointer (some ⟨g + 1, 0, none⟩)), some (.pointer (some ⟨g + 1, 0, none⟩)), some (.pointer (some ⟨g + 1, 0, none⟩)), none, some (.pointer (some ⟨g + 1, 0, none⟩)), some (.pointer (some ⟨g + 1, 0, none⟩)), some (.pointer (some ⟨g + 1, 1, none⟩)), none] [11,15] (nwA w g ccs cs) [(0, 0), (0, 1), (0, 0), (0, 0), (0, 0), (0, 0), (0, 0), (0, 0), (0, 0), (0, 0), (0, 0), (0, 0), (1, 1), (1, 1), (1, 1), (1, 1)] (by kernel_rfl) (by kernel_rfl) (by kernel_rfl) (by kernel_rfl) (by kernel_rfl) (by kernel_rfl) (⟨HV.out.1.drew, HV.out.2.1.drew, HV.out.2.2.drew⟩) ?_ ?_
  · refine StepsC.cons ?_ (StepsC.cons ?_ (StepsC.cons ?_ (StepsC.cons ?_ (StepsC.cons ?_ (StepsC.cons ?_ (StepsC.cons ?_ (StepsC.cons ?_ (StepsC.cons ?_ (StepsC.cons ?_ (StepsC.cons ?_ (StepsC.cons ?_ (StepsC.cons ?_ (StepsC.cons ?_ (StepsC.cons ?_ (StepsC.cons ?_ StepsC.nil)))))))))))))))
    · refine chain_is _ (.inl rfl) ⟨_, rfl⟩ (by kernel_rfl) rfl ?_
      intro a W kst l0 h0 A0 hF hD
      have k0 : kst = 0 := Nat.le_antisymm h0 l0
      subst k0
      clear l0 h0
      have e6 : a.tmps[6]?.getD undef = _ := (ev a 6).symm.trans (hF 6 (by kernel_rfl))
      clear hF hD
      obtain ⟨A1, A2, A3⟩ : nwA w g ccs cs [] W := A0
      go_simp
    · refine chain_is _ (.inl rfl) ⟨_, rfl⟩ (by kernel_rfl) rfl ?_
      intro a W kst l0 h0 A0 hF hD
      have e6 : a.tmps[6]?.getD undef = _ := (ev a 6).symm.trans (hF 6 (by kernel_rfl))
      clear hF hD
      obtain ⟨A1, A2, A3⟩ : nwA w g ccs cs [] W := A0
      go_simp
    · refine chain_is _ (.inl rfl) ⟨_, rfl⟩ (by kernel_rfl) rfl ?_
      intro a W kst l0 h0 A0 hF hD
      have k0 : kst = 0 := Nat.le_antisymm h0 l0
      subst k0
      clear l0 h0
      have e2 : a.tmps[2]?.getD undef = _ := (ev a 2).symm.trans (hF 2 (by kernel_rfl))
      clear hF hD
      obtain ⟨A1, A2, A3⟩ : nwA w g ccs cs [] W := A0
      go_simp
    · refine chain_is _ (.inl rfl) ⟨_, rfl⟩ (by kernel_rfl) rfl ?_
      intro a W kst l0 h0 A0 hF hD
      have k0 : kst = 0 := Nat.le_antisymm h0 l0
      subst k0
      clear l0 h0
      have e52 : a.tmps[52]?.getD undef = .pointer (some ⟨g, 0, none⟩) := (ev a 52).symm.trans (hD _ (Array.mem_of_getElem? (i := 0) rfl) rfl)
      clear hF hD
      obtain ⟨A1, A2, A3⟩ : nwA w g ccs cs [] W := A0
      have q := A1.cell 0
      rw [← HCC.out] at q
      simp at q
      go_simp
    · refine chain_beside _ (.inl rfl) ⟨_, rfl⟩ (by kernel_rfl) rfl ?_
      intro a W kst l0 h0 A0 hF hD
      have k0 : kst = 0 := Nat.le_antisymm h0 l0
      subst k0
      clear l0 h0
      have e53 : a.tmps[53]?.getD undef = .string name := (ev a 53).symm.trans (hD _ (Array.mem_of_getElem? (i := 0) rfl) rfl)
      clear hF hD
      obtain ⟨A1, A2, A3⟩ : nwA w g ccs cs [] W := A0
      refine ⟨_, _, by (go_simp; first | done | rfl | exact ⟨rfl, rfl⟩), ?_⟩
      refine (clone_any name W (by omega)).mono ?_
      rintro e wq ⟨rfl, hu⟩
      exact ⟨rfl, A1.upd hu (by simp), A2.upd hu (by simp), A3.trans hu⟩
    · refine chain_is _ (.inl rfl) ⟨_, rfl⟩ (by kernel_rfl) rfl ?_
      intro a W kst l0 h0 A0 hF hD
      have k0 : kst = 0 := Nat.le_antisymm h0 l0
      subst k0
      clear l0 h0
      have e2 : a.tmps[2]?.getD undef = _ := (ev a 2).symm.trans (hF 2 (by kernel_rfl))
      clear hF hD
      obtain ⟨A1, A2, A3⟩ : nwA w g ccs cs [] W := A0
      go_simp
    · refine chain_is _ (.inl rfl) ⟨_, rfl⟩ (by kernel_rfl) rfl ?_
      intro a W kst l0 h0 A0 hF hD
      have k0 : kst = 0 := Nat.le_antisymm h0 l0
      subst k0
      clear l0 h0
      have e55 : a.tmps[55]?.getD undef = .pointer (some ⟨g, 1, none⟩) := (ev a 55).symm.trans (hD _ (Array.mem_of_getElem? (i := 0) rfl) rfl)
      clear hF hD
      obtain ⟨A1, A2, A3⟩ : nwA w g ccs cs [] W := A0
      have q := A1.cell 1
      rw [← HCC.out] at q
      simp at q
      go_simp
    · refine chain_beside _ (.inl rfl) ⟨_, rfl⟩ (by kernel_rfl) rfl ?_
      intro a W kst l0 h0 A0 hF hD
      have k0 : kst = 0 := Nat.le_antisymm h0 l0
      subst k0
      clear l0 h0
      have e56 : a.tmps[56]?.getD undef = .string secret := (ev a 56).symm.trans (hD _ (Array.mem_of_getElem? (i := 0) rfl) rfl)
      clear hF hD
      obtain ⟨A1, A2, A3⟩ : nwA w g ccs cs [] W := A0
      refine ⟨_, _, by (go_simp; first | done | rfl | exact ⟨rfl, rfl⟩), ?_⟩
      refine (clone_any secret W (by omega)).mono ?_
      rintro e wq ⟨rfl, hu⟩
      exact ⟨rfl, A1.upd hu (by simp), A2.upd hu (by simp), A3.trans hu⟩
    · refine chain_is _ (.inl rfl) ⟨_, rfl⟩ (by kernel_rfl) rfl ?_
      intro a W kst l0 h0 A0 hF hD
      have k0 : kst = 0 := Nat.le_antisymm h0 l0
      subst k0
      clear l0 h0
      have e50 : a.tmps[50]?.getD undef = .pointer (some ⟨g + 1, 0, none⟩) := (ev a 50).symm.trans (hD _ (Array.mem_of_getElem? (i := 0) rfl) rfl)
      clear hF hD
      obtain ⟨A1, A2, A3⟩ : nwA w g ccs cs [] W := A0
      go_simp
    · refine chain_is _ (.inl rfl) ⟨_, rfl⟩ (by kernel_rfl) rfl ?_
      intro a W kst l0 h0 A0 hF hD
      have k0 : kst = 0 := Nat.le_antisymm h0 l0
      subst k0
      clear l0 h0
      have e58 : a.tmps[58]?.getD undef = .pointer (some ⟨g + 1, 0, none⟩) := (ev a 58).symm.trans (hD _ (Array.mem_of_getElem? (i := 0) rfl) rfl)
      clear hF hD
      obtain ⟨A1, A2, A3⟩ : nwA w g ccs cs [] W := A0
      go_simp
    · refine chain_is _ (.inl rfl) ⟨_, rfl⟩ (by kernel_rfl) rfl ?_
      intro a W kst l0 h0 A0 hF hD
      have k0 : kst = 0 := Nat.le_antisymm h0 l0
      subst k0
      clear l0 h0
      have e59 : a.tmps[59]?.getD undef = .pointer (some ⟨g + 1, 0, none⟩) := (ev a 59).symm.trans (hD _ (Array.mem_of_getElem? (i := 0) rfl) rfl)
      clear hF hD
      obtain ⟨A1, A2, A3⟩ : nwA w g ccs cs [] W := A0
      go_simp
    · refine chain_set (.inl rfl) rfl (by kernel_rfl) trivial ?_
      intro a W kst l0 h0 A0 hF hD
      have k0 : kst = 0 := Nat.le_antisymm h0 l0
      subst k0
      clear l0 h0
      have e60 : a.tmps[60]?.getD undef = .pointer (some ⟨g + 1, 0, none⟩) := (ev a 60).symm.trans (hD _ (Array.mem_of_getElem? (i := 0) rfl) rfl)
      have e54 : a.tmps[54]?.getD undef = .string name := (ev a 54).symm.trans (hD _ (Array.mem_of_getElem? (i := 1) rfl) rfl)
      clear hF hD
      obtain ⟨A1, A2, A3⟩ : nwA w g ccs cs [] W := A0
      have q := A2.cell 0
      rw [← HCS.out] at q
      simp [Tn.cells, Tn.new] at q
      have f := A2.frozen 0
      refine ⟨_, by (go_simp; first | done | rfl | exact ⟨rfl, rfl⟩), A1.far _ (by simp), (A2.set_ 0 (.string name)).of_eq (by rw [← HCS.out]; rfl), A3.setCell _ (.inr (by have := HG.out; simp; omega))⟩
    · refine chain_is _ (.inl rfl) ⟨_, rfl⟩ (by kernel_rfl) rfl ?_
      intro a W kst l0 h0 A0 hF hD
      have k0 : kst = 1 := Nat.le_antisymm h0 l0
      subst k0
      clear l0 h0
      have e51 : a.tmps[51]?.getD undef = .pointer (some ⟨g + 1, 0, none⟩) := (ev a 51).symm.trans (hD _ (Array.mem_of_getElem? (i := 0) rfl) rfl)
      clear hF hD
      obtain ⟨A1, A2, A3⟩ : nwA w g ccs cs [] W := A0
      go_simp
    · refine chain_is _ (.inl rfl) ⟨_, rfl⟩ (by kernel_rfl) rfl ?_
      intro a W kst l0 h0 A0 hF hD
      have k0 : kst = 1 := Nat.le_antisymm h0 l0
      subst k0
      clear l0 h0
      have e61 : a.tmps[61]?.getD undef = .pointer (some ⟨g + 1, 0, none⟩) := (ev a 61).symm.trans (hD _ (Array.mem_of_getElem? (i := 0) rfl) rfl)
      clear hF hD
      obtain ⟨A1, A2, A3⟩ : nwA w g ccs cs [] W := A0
      go_simp
    · refine chain_is _ (.inl rfl) ⟨_, rfl⟩ (by kernel_rfl) rfl ?_
      intro a W kst l0 h0 A0 hF hD
      have k0 : kst = 1 := Nat.le_antisymm h0 l0
      subst k0
      clear l0 h0
      have e62 : a.tmps[62]?.getD undef = .pointer (some ⟨g + 1, 0, none⟩) := (ev a 62).symm.trans (hD _ (Array.mem_of_getElem? (i := 0) rfl) rfl)
      clear hF hD
      obtain ⟨A1, A2, A3⟩ : nwA w g ccs cs [] W := A0
      go_simp
    · refine chain_set (.inl rfl) rfl (by kernel_rfl) trivial ?_
      intro a W kst l0 h0 A0 hF hD
      have k0 : kst = 1 := Nat.le_antisymm h0 l0
      subst k0
      clear l0 h0
      have e63 : a.tmps[63]?.getD undef = .pointer (some ⟨g + 1, 1, none⟩) := (ev a 63).symm.trans (hD _ (Array.mem_of_getElem? (i := 0) rfl) rfl)
      have e57 : a.tmps[57]?.getD undef = .string secret := (ev a 57).symm.trans (hD _ (Array.mem_of_getElem? (i := 1) rfl) rfl)
      clear hF hD
      obtain ⟨A1, A2, A3⟩ : nwA w g ccs cs [] W := A0
      have q := A2.cell 1
      rw [← HCS.out] at q
      simp [Tn.cells, Tn.new] at q
      have f := A2.frozen 1
      refine ⟨_, by (go_simp; first | done | rfl | exact ⟨rfl, rfl⟩), A1.far _ (by simp), (A2.set_ 1 (.string secret)).of_eq (by rw [← HCS.out]; rfl), A3.setCell _ (.inr (by have := HG.out; simp; omega))⟩
  intro vals W hv hA
  have v0 : vals 0 = .pointer (some ⟨g + 1, 0, none⟩) := hv 0 (by decide)
  have v1 : vals 1 = .pointer (some ⟨g + 1, 0, none⟩) := hv 1 (by decide)
  have v2 : vals 2 = .pointer (some ⟨g, 0, none⟩) := hv 2 (by decide)
  have v3 : vals 3 = .string name := hv 3 (by decide)
  have v4 : vals 4 = .string name := hv 4 (by decide)
  have v5 : vals 5 = .pointer (some ⟨g, 1, none⟩) := hv 5 (by decide)
  have v6 : vals 6 = .string secret := hv 6 (by decide)
  have v7 : vals 7 = .string secret := hv 7 (by decide)
  have v8 : vals 8 = .pointer (some ⟨g + 1, 0, none⟩) := hv 8 (by decide)
  have v9 : vals 9 = .pointer (some ⟨g + 1, 0, none⟩) := hv 9 (by decide)
  have v10 : vals 10 = .pointer (some ⟨g + 1, 0, none⟩) := hv 10 (by decide)
  have v12 : vals 12 = .pointer (some ⟨g + 1, 0, none⟩) := hv 12 (by decide)
  have v13 : vals 13 = .pointer (some ⟨g + 1, 0, none⟩) := hv 13 (by decide)
  have v14 : vals 14 = .pointer (some ⟨g + 1, 1, none⟩) := hv 14 (by decide)
  clear hv
  obtain ⟨k1, k2, k3⟩ := hA
  simp only [putAll, Act.put, Nat.zero_add, Nat.reduceAdd, v0, v1, v2, v3, v4, v5, v6, v7, v8, v9, v10, v12, v13, v14, List.setIfInBounds_toArray, List.set_cons_zero, List.set_cons_succ]
  clear v0 v1 v2 v3 v4 v5 v6 v7 v8 v9 v10 v12 v13 v14
  rw [← HCS.out] at k2
  have HA := Lib.hid (tanew_any k2 HN.out)
  have HK2 := Lib.hid k2
  have HK3 := Lib.hid k3
  clear k1 k2 k3
  go_wp2_with fail
  refine HA.out.mono ?_
  rintro e w3 ⟨rfl, ⟨gw, b1, b2, b3⟩, b4⟩
  have HX := Lib.hid (And.intro b1 (And.intro b2 (And.intro b3 b4)))
  clear b1 b2 b3 b4
  go_wp2_with fail
  go_ret2
  obtain ⟨b1, b2, b3, b4⟩ := HX.out
  have hW := HK2.out.lt
  have hU : Upd [] w w3 := HK3.out.trans' b4 (fun x hx => .inr (by have := HG.out; simp at hx; omega))
  have hsz := HK3.out.size
  have hg := HG.out
  have hdl := HD.out.lt
  refine ⟨⟨g + 1, _, rfl, ⟨bd, od, gw, [gw], b1, HD.out.keep hU, b2, fun h => by have := hdl _ h; omega, by simp; omega, fun k hk => by have := hdl _ hk; simp; omega, rfl⟩, ?_⟩, hU⟩
  intro k hk
  simp only [List.mem_cons, List.mem_append, List.not_mem_nil, or_false] at hk
  rcases hk with rfl | hk | rfl
  · exact .inr (by omega)
  · exact .inl hk
  · exact .inr (by omega)
end Go.Proofs.YtolfjfkkbhbbbaaGreat
namespace Go.Proofs.YtolfjfkkbhbbbaaGreat
open Go.RowKit
set_option linter.unusedSimpArgs false
set_option linter.unusedVariables false
set_option maxRecDepth 100000

theorem TunAt.cellAt {w : World} {b : Nat} {t : Tn} {own : List Nat} (h : TunAt w b t own) (i : Nat) (u : Value) (hu : ∀ vd vw, (t.cells vd vw)[i]? = some u) : w.cell? ⟨b, i, none⟩ = some u := by
  obtain ⟨vd, vw, hb⟩ := h.blk
  rw [hb.cell i, hu]
theorem TunAt.upd1 {w w' : World} {b : Nat} {t t' : Tn} {own : List Nat} (h : TunAt w b t own) {i : Nat} {u : Value} (hu : Upd own w w') : Upd own w (w'.setCell ⟨b, i, none⟩ u) :=
  hu.setCell _ (.inl h.mem)
theorem wpList_append_step {P : Program} {w : World} {ops : Array Oper} {rest : List Oper} {o : Oper} {a : Act} {Q : Exit → Act → World → Prop} (hgd : o.guard = none) (s x : Operand) (t : TypeId) (ho : o.op = .call { callee := .builtin .append, args := #[s, x], argTypes := #[t, t] })
    (v u r : Value) (w' : World) (hs : a.eval s = v) (hx : a.eval x = u) (hrun : (Builtin.append_ #[t, t] o.type #[v, u]).run P w = .ok r w') (h : wpList P ops Q rest (a.put o.dst r) w') : wpList P ops Q (o :: rest) a w := by
  refine wpList_plain hgd fun K hK => ?_
  unfold Oper.wp
  rw [exec_append ho hs hx hrun, Oper.upon_value]
  exact hK _ _ h
/-- A list of values with another one behind it. -/
theorem app_avs {w : World} {v u : Value} {l m : List Av} {ol : List Nat} (h : Own w 51 5 v l.length (avCells l) ol) (hu : AvsAt w u m) (hl : l.length + m.length ≤ 1000) :
    ∃ ao cap w' ol', (Builtin.append_ #[53, 53] 53 #[v, u]).run Tryz.prog w = .ok (.slice ao (l ++ m).length cap) w' ∧
      Own w' 51 5 (.slice ao (l ++ m).length cap) (l ++ m).length (avCells (l ++ m)) ol' ∧ (∀ k, k ∈ ol' → k ∈ ol ∨ w.heap.size ≤ k) ∧ Upd ol w w' := by
  obtain ⟨i0, hi, hz0, hz1, hz2⟩ := info_parts info_avp
  rw [List.length_append, avCells_append]
  exact run_append_Rd (P := Tryz.prog) w 53 53 51 i0 _ 5 40 Tryz.underlying53 hi hz0 hz1 hz2 rfl (by decide) _ _ _ _ h _ _ _ hu.rd (by simp only [maxLen]; omega) (by omega)

set_option maxHeartbeats 4000000 in
theorem topen_any {w : World} {b : Nat} {t : Tn} {own : List Nat} (h : TunAt w b t own) (hz : t.secret.size ≤ 60) (ha : t.tape.asks ≤ 800000) :
    Calls Tryz.prog 12 #[.pointer (some ⟨b, 0, none⟩)] w (TunEnd w b own t.open_.1 (.int .i64 t.open_.2)) := by
  have HT := Lib.hid h
  have HN := Lib.hid (tnone_at h)
  have cs := h.state
  have HZ := Lib.hid hz
  obtain ⟨bd, od, c8, hd, hback⟩ := h.tapeUp
  have HB := Lib.hid hback
  clear h hz hback
  by_cases t0 : t.state = 0
  · have HS : Hid (t.open_ = (t.open1.sayAsk 1 (t.open1.about 1 ++ [txtAv 5 (t.tape.str 8)]), 0)) := by show _ = _; rw [Tn.open_, if_neg (by simp [t0])]
    rw [HS.out]
    rw [t0] at cs
    have HY := Lib.hid (bytes_any 8 (by omega) hd (by omega))
    have hsz := Tp.str_size 8 t.tape
    have HA : Hid (t.open1.tape.asks ≤ 900000) := by show (Tp.after 8 t.tape).asks ≤ _; have := (Tp.after_asks 8 t.tape).2; omega
    have HE : Hid (t.open1 = ({ t with tape := Tp.after 8 t.tape, tie := tieOf (t.tape.str 8) } : Tn)) := rfl
    obtain ⟨T1, hT1⟩ : ∃ T1, t.open1 = T1 := ⟨_, rfl⟩
    rw [hT1] at HA HE
    rw [hT1]
    have HZ1 : Hid (T1.secret.size ≤ 60) := by show _ ≤ _; rw [HE.out]; exact HZ.out
    generalize Tp.after 8 t.tape = tp at *
    generalize t.tape.str 8 = s at *
    dsimp only
    obtain ⟨R, hR⟩ : ∃ R, T1.sayAsk 1 (T1.about 1 ++ [txtAv 5 s]) = R := ⟨_, rfl⟩
    rw [hR]
    have HR := Lib.hid hR
    clear t0 hd ha HS hT1 hR
    go_enter Tryz.func12, Tryz.ntmps12
    go_wp2_with fail
    refine HN.out.mono ?_
    rintro e w' ⟨rfl, rfl⟩
    go_wp2_with fail
    refine HY.out.mono ?_
    rintro e w1 ⟨rfl, k1, k2⟩
    obtain ⟨k3, k4⟩ := HB.out w1 tp k1 k2
    have K3 := Lib.hid k3
    have K4 := Lib.hid k4
    clear k1 k2 k3 k4 HY c8 cs
    go_wp2_with fail
    refine (tnumber_any s (by simp only [maxLen]; omega) _).mono ?_
    rintro e w2 ⟨rfl, hu2⟩
    have k3 := K3.out.keep hu2
    have c13 := k3.cellAt 13 (.int .u64 t.tie) (fun _ _ => rfl)
    have f13 := k3.frozen 13
    have K3 := Lib.hid (k3.set 13 (.int .u64 (tieOf s)) T1 (fun _ _ => by rw [HE.out]; rfl) (by rw [HE.out]) (by rw [HE.out]))
    have K4 := Lib.hid ((K4.out.trans (hu2.mono (by simp))).setCell (p := ⟨b, 13, none⟩) (.int .u64 (tieOf s)) (.inl k3.mem))
    clear k3 hu2
    go_wp2_with fail
    obtain ⟨W, hW⟩ : ∃ W, w2.setCell ⟨b, 13, none⟩ (.int .u64 (tieOf s)) = W := ⟨_, rfl⟩
    rw [hW] at K3 K4 ⊢
    clear hW c13 f13
    refine (tabout_any K3.out 1).mono ?_
    rintro e w3 ⟨⟨va, oa, rfl, ho, hn⟩, hu3⟩
    obtain ⟨l, hl⟩ : ∃ l, T1.about 1 = l := ⟨_, rfl⟩
    have HLL : Hid (l.length = 6) := by show _ = _; rw [← hl]; rfl
    rw [hl] at ho HR
    obtain ⟨aa, ca, rfl, -, -⟩ := ho.shape
    have HU3 := Lib.hid hu3
    have HO := Lib.hid ho
    have HNW := Lib.hid hn
    clear ho hn hu3 hl
    go_wp2_with fail
    refine (ttext_any 5 s _).mono ?_
    rintro e w4 ⟨rfl, hu4⟩
    have hown := Own.rows_new w4 51 (size := 5) (n := 1) (cs := avCells [txtAv 5 s]) rfl (by simp [maxLen])
    obtain ⟨w5, hw5⟩ : ∃ w5, w4.alloc (Obj.cells #[.bool true, .bool false, .int .i64 0, .int .i64 5, .string s] 51) = w5 := ⟨_, rfl⟩
    have hu5 : Upd [] w3 w5 := by rw [← hw5]; exact hu4.alloc _
    have ho5 := AvsAt.of_own (l := [txtAv 5 s]) (by have h := hown; rw [show w4.alloc (.cells (avCells [txtAv 5 s]).toArray 51) = w5 from hw5] at h; exact h)
    obtain ⟨ap, cp, w6, op, hrun, ho6, hn6, hu6⟩ := app_avs (HO.out.upd hu5 (by simp)) ho5 (by rw [HLL.out]; simp)
    obtain ⟨l2, hl2⟩ : ∃ l2, l ++ [txtAv 5 s] = l2 := ⟨_, rfl⟩
    have HL27 : Hid (l2.length = 7) := by show _ = _; rw [← hl2, List.length_append, HLL.out]; rfl
    rw [hl2] at hrun ho6 HR
    have hu36 : Upd [] W w6 := (HU3.out.trans hu5).trans' hu6 (fun x hx => .inr (HNW.out x hx))
    have HO6 := Lib.hid ho6
    have HN6 : Hid (∀ k ∈ op, w.heap.size ≤ k) := fun k hk => by
      have h1 := K4.out.size
      rcases hn6 k hk with h | h
      · have := HNW.out k h; omega
      · have := hu5.size; have := HU3.out.size; omega
    have K6 := K3.out.keep hu36
    have HK6 := Lib.hid K6
    have HU6 := Lib.hid (K4.out.trans (hu36.mono (by simp)))
    have HNO : Hid (∀ k ∈ own, k < w.heap.size) := HT.out.lt
    have HRUN := Lib.hid hrun
    have HG4 := Lib.hid (rfl : w4.heap.size = w4.heap.size)
    obtain ⟨g4, hg4⟩ : ∃ g4, w4.heap.size = g4 := ⟨_, rfl⟩
    rw [hg4] at HRUN
    obtain ⟨ln, hln⟩ : ∃ ln, l.length = ln := ⟨_, rfl⟩
    obtain ⟨ln2, hln2⟩ : ∃ ln, l2.length = ln := ⟨_, rfl⟩
    rw [hln] at HRUN
    rw [hln2] at HRUN
    have HLN2 := Lib.hid hln2
    rw [hln]
    have c10 := K6.state
    have f10 := K6.frozen 10
    have c18 := K6.cellAt 18 (.int .i64 T1.since) (fun _ _ => rfl)
    have f18 := K6.frozen 18
    have e10 : w6.setCell ⟨b, 10, none⟩ (.int .i64 1) = w6.setCell ⟨b, 10, none⟩ (.int .i64 1) := rfl
    clear hown hu4 hu5 ho5 hrun ho6 hn6 hu6 hl2 hu36 hln hln2 K6 e10 HG4
    go_wp2_with (at_builtin; refine wpList_append_step rfl (.tmp 25) (.tmp 28) 53 rfl _ _ _ _ (by simp [Act.eval]) (by simp [Act.eval]) HRUN.out ?_)
    have hnb : b ∉ op := fun hk => by have := HN6.out b hk; have := HNO.out b HK6.out.mem; omega
    have q1 := (HK6.out.set 10 (.int .i64 1) { T1 with state := 1 } (fun _ _ => rfl) rfl rfl).set 18 (.int .i64 0) { T1 with state := 1, since := 0 } (fun _ _ => rfl) rfl rfl
    have q2 := (HU6.out.setCell (p := ⟨b, 10, none⟩) (.int .i64 1) (.inl HK6.out.mem)).setCell (p := ⟨b, 18, none⟩) (.int .i64 0) (.inl HK6.out.mem)
    have q3 := (HO6.out.setCell (p := ⟨b, 10, none⟩) (.int .i64 1) hnb).setCell (p := ⟨b, 18, none⟩) (.int .i64 0) hnb
    obtain ⟨w7, hw7⟩ : ∃ w7, (w6.setCell ⟨b, 10, none⟩ (.int .i64 1)).setCell ⟨b, 18, none⟩ (.int .i64 0) = w7 := ⟨_, rfl⟩
    rw [hw7] at q1 q2 q3 ⊢
    clear hw7 hnb c10 f10 c18 f18
    obtain ⟨T2, hT2⟩ : ∃ T2 : Tn, { T1 with state := 1, since := 0 } = T2 := ⟨_, rfl⟩
    have HT2 := Lib.hid hT2
    rw [hT2] at q1
    have HA2 : Hid (T2.tape.asks ≤ 900000) := by show _ ≤ _; rw [← hT2]; exact HA.out
    have HZ2 : Hid (T2.ask.1.secret.size ≤ 60) := by
      show _ ≤ _
      rw [← hT2, Tn.ask]
      split <;> exact HZ1.out
    have HL3 : Hid (T2.ask.2.length ≤ 1) := by
      show _ ≤ _
      rw [Tn.ask]
      split <;> simp
    have HR2 : Hid ((T2.ask.1.send 0 (l2 ++ T2.ask.2)).1 = R) := by show _ = _; rw [← HR.out, ← hT2]; rfl
    refine (task_any q1 HA2.out).mono ?_
    generalize T2.ask.2 = l3 at *
    generalize T2.ask.1 = T3 at *
    rintro e w8 ⟨⟨v3, o3, rfl, ho3, hn3⟩, at3, u3⟩
    obtain ⟨a3, c3, rfl, -, -⟩ := ho3.shape
    have hd3 : ∀ k ∈ op, k ∉ own := fun k hk hk2 => by have := HN6.out k hk; have := HNO.out k hk2; omega
    obtain ⟨ap9, cp9, w9, op9, hrun, ho9, hn9, hu9⟩ := app_avs (q3.upd u3 hd3) (AvsAt.of_own ho3) (by have := HL27.out; have := HL3.out; omega)
    have hat9 := at3.upd hu9 (fun k hk hk2 => hd3 k hk2 hk)
    have hU9 := (q2.trans u3).trans' hu9 (fun x hx => .inr (HN6.out x hx))
    have HS9 := Lib.hid (tsend_any hat9 0 (by omega) (l2 ++ l3) _ (AvsAt.of_own ho9) (by have := HZ2.out; omega))
    have HU9 := Lib.hid hU9
    have HRUN9 := Lib.hid hrun
    obtain ⟨ln3, hln3⟩ : ∃ n, l3.length = n := ⟨_, rfl⟩
    obtain ⟨ln9, hln9⟩ : ∃ n, (l2 ++ l3).length = n := ⟨_, rfl⟩
    rw [hln9] at HS9 HRUN9
    rw [hln3] at HRUN9
    rw [HLN2.out] at HRUN9
    rw [hln3]
    clear q1 q2 q3 hT2 ho3 hn3 at3 u3 hd3 hrun ho9 hn9 hu9 hat9 hU9 hln3 hln9
    go_wp2_with (at_builtin; refine wpList_append_step rfl (.tmp 37) (.tmp 39) 53 rfl _ _ _ _ (by simp [Act.eval]) (by simp [Act.eval]) HRUN9.out ?_)
    refine HS9.out.mono ?_
    rintro e w10 ⟨rfl, ⟨own', at10, gr10⟩, u10⟩
    rw [HR2.out] at at10
    have HFIN : Hid (TunEnd w b own R (.int .i64 0) (.returned (.int .i64 0)) w10) := ⟨rfl, ⟨own', at10, fun k hk => (gr10 k hk).imp id (fun h => Nat.le_trans HU9.out.size h)⟩, HU9.out.trans u10⟩
    clear at10 gr10 u10
    go_wp2_with fail
    go_ret
    exact HFIN.out
  · have HS : Hid (t.open_ = (t, 20)) := by show _ = _; rw [Tn.open_, if_pos t0]
    rw [HS.out]
    dsimp only
    clear HS hd
    go_enter Tryz.func12, Tryz.ntmps12
    go_wp2_with fail
    refine HN.out.mono ?_
    rintro e w' ⟨rfl, rfl⟩
    go_wp2_with fail
    go_ret
    exact ⟨rfl, ⟨_, HT.out, Grew.refl _ _⟩, Upd.refl _ _⟩
end Go.Proofs.YtolfjfkkbhbbbaaGreat
