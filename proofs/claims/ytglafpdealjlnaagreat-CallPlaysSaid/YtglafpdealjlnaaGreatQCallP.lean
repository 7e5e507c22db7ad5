/- An end of a call as plain data, and what its methods do to it. No program in sight but the specification's functions. -/
import Derived.Test.YtglafpdealjlnaaGreatQRely
import Derived.Test.YtglafpdealjlnaaGreatQMsgA
import Derived.Test.YtglafpdealjlnaaGreatQCuts
namespace Go.Proofs.YtglafpdealjlnaaGreat
open Go.RowKit
set_option linter.unusedSimpArgs false
set_option linter.unusedVariables false

structure K where
  id : Int
  serial : Int
  peer : Int
  out : Bool
  made : Bool
  state : Int
  with_ : List Av
  got : List Av
  wens : Int
  slis : Int
def K.cells (k : K) (vw vg : Value) : Array Value := #[.int .i64 k.id, .int .i64 k.serial, .int .i64 k.peer, .bool k.out, .bool k.made, .int .i64 k.state, vw, vg, .int .i64 k.wens, .int .i64 k.slis]
structure K.ok (k : K) : Prop where
  m : k.made = true
  w1 : 0 ≤ k.wens
  w2 : k.wens ≤ 2147483647
  s1 : 0 ≤ k.slis
  s2 : k.slis ≤ 2147483647
  h : k.with_.length ≤ 1000
  g : ∀ a ∈ k.got, a.val.size ≤ maxLen
def K.new (id serial : Int) (out : Bool) : K := ⟨id, serial, 0, out, true, 0, [], [], 0, 0⟩

def roleTab : List ((Int × Bool) × Int) := [((10, false), 1), ((11, false), 2), ((12, false), 3), ((7, true), 1), ((8, true), 2), ((9, true), 3)]
/-- What a kind does for this sort of call; 0: nothing. -/
def roleOf (kind : Int) (out : Bool) : Int := match roleTab.find? (fun p => (kind, out) == p.1) with
  | some p => p.2
  | none => 0
/-- The kind that does something for this sort of call. -/
def kindFor (out : Bool) (does : Int) : Int := match roleTab.find? (fun p => p.2 == does && p.1.2 == out) with
  | some p => p.1.1
  | none => 0
abbrev Sy := Int × List Av
def K.own (k : K) : Av := numAv 14 k.id 2
def K.say (k : K) (kind : Int) (l : List Av) : Sy := (k.peer, numAv 0 kind 2 :: l)
def K.conn (k : K) : Sy := k.say (kindFor k.out 3) ([numAv 24 10000000 4, numAv 19 1 4] ++ k.with_)
def K.fin (k : K) (code : Int) : K × List Sy := ({ k with state := 4 }, [k.say 14 [numAv 1 code 2, k.own]])
def K.openC (k : K) : K × List Sy := if k.state = 0 then ({ k with state := 1 }, [k.say (kindFor k.out 1) [k.own, numAv 15 k.serial 4]]) else (k, [])
def K.close (k : K) (code : Int) : K × List Sy := if k.state = 4 then (k, []) else if k.state = 0 then ({ k with state := 4 }, []) else k.fin code
def K.named1 (k : K) (l : List Av) : K := { k with peer := (numberAv l 14).1 }
def K.named (k : K) (l : List Av) : K × List Sy :=
  if (k.named1 l).peer = 0 then (k.named1 l).fin 3
  else if decide (k.state = 0) = k.out then ({ k.named1 l with state := 3 }, (if k.state = 0 then [(k.named1 l).say (kindFor k.out 2) [k.own]] else []) ++ [(k.named1 l).conn])
  else ({ k.named1 l with state := 2 }, if k.state = 0 then [(k.named1 l).say (kindFor k.out 2) [k.own]] else [])
def K.handle (k : K) (kind does : Int) (l : List Av) : K × List Sy :=
  if k.state = 0 ∨ (k.state = 1 ∧ does = 2) then k.named l
  else if k.state = 2 ∧ does = 3 then ({ k with state := 3, got := l }, [])
  else if k.state = 3 ∧ kind = 15 then ({ k with wens := min (k.wens + 1) 2147483647 }, [])
  else if k.state = 3 ∧ kind = 16 then ({ k with slis := min (k.slis + 1) 2147483647 }, [])
  else (k, [])
def K.take (k : K) (l : List Av) : K × List Sy :=
  if k.state = 4 then (k, [])
  else if k.state = 0 ∧ roleOf (kindOf l) k.out ≠ 1 then (k, [])
  else if checkOf l ≠ 0 then k.fin 2
  else if kindOf l = 14 then ({ k with state := 4 }, [])
  else k.handle (kindOf l) (roleOf (kindOf l) k.out) l
def K.tell (k : K) (kind value : Int) (text : ByteArray) : List Sy := if k.state ≠ 3 ∨ 1000 < text.size then [] else [k.say kind [⟨true, false, 0, value, text⟩]]

/-! ### in a world -/
structure CallAt (w : World) (b : Nat) (k : K) : Prop where
  ex : ∃ vw vg ow og, Blk w b 193 (k.cells vw vg) ∧ Own w 85 5 vw k.with_.length (avCells k.with_) ow ∧ Own w 85 5 vg k.got.length (avCells k.got) og
def sayCells : List Sy → List Value → List Value
  | p :: l, u :: us => .int .i64 p.1 :: u :: sayCells l us
  | _, _ => []
def SaysAt (w : World) (v : Value) (l : List Sy) (own : List Nat) : Prop :=
  ∃ us : List Value, us.length = l.length ∧ Own w 191 2 v l.length (sayCells l us) own ∧ ∀ (i : Nat) (p : Sy) (u : Value), l[i]? = some p → us[i]? = some u → ∃ ou, Own w 85 5 u p.2.length (avCells p.2) ou
section
variable {w w' : World} {b b' : Nat} {k k' : K}
theorem CallAt.upd (h : CallAt w b k) (hu : Upd [] w w') : CallAt w' b k := by
  obtain ⟨vw, vg, ow, og, h1, h2, h3⟩ := h
  exact ⟨vw, vg, ow, og, h1.upd hu (by simp), h2.upd hu (by simp), h3.upd hu (by simp)⟩
theorem CallAt.lt (h : CallAt w b k) : b < w.heap.size := by
  obtain ⟨vw, vg, ow, og, h1, h2, h3⟩ := h
  exact h1.lt
/-- Another call is written. -/
theorem CallAt.far (h : CallAt w b k) (h' : CallAt w b' k') (hne : b ≠ b') (hu : Upd [b'] w w') : CallAt w' b k := by
  obtain ⟨vw, vg, ow, og, h1, h2, h3⟩ := h
  obtain ⟨vw', vg', ow', og', g1, _, _⟩ := h'
  exact ⟨vw, vg, ow, og, h1.upd hu (by simpa using hne), h2.upd hu (fun x hx => by simp; rintro rfl; exact h2.ne_blk g1 (by decide) hx), h3.upd hu (fun x hx => by simp; rintro rfl; exact h3.ne_blk g1 (by decide) hx)⟩
theorem SaysAt.far {v : Value} {l : List Sy} {own : List Nat} (h : SaysAt w v l own) (h' : CallAt w b' k') (hu : Upd [b'] w w') : SaysAt w' v l own := by
  obtain ⟨us, h1, h2, h3⟩ := h
  obtain ⟨vw', vg', ow', og', g1, _, _⟩ := h'
  refine ⟨us, h1, h2.upd hu (fun x hx => by simp; rintro rfl; exact h2.ne_blk g1 (by decide) hx), fun i p u hi hu' => ?_⟩
  obtain ⟨ou, h4⟩ := h3 i p u hi hu'
  exact ⟨ou, h4.upd hu (fun x hx => by simp; rintro rfl; exact h4.ne_blk g1 (by decide) hx)⟩
theorem SaysAt.upd {v : Value} {l : List Sy} {own : List Nat} (h : SaysAt w v l own) (hu : Upd [] w w') : SaysAt w' v l own := by
  obtain ⟨us, h1, h2, h3⟩ := h
  refine ⟨us, h1, h2.upd hu (by simp), fun i p u hi hu' => ?_⟩
  obtain ⟨ou, h4⟩ := h3 i p u hi hu'
  exact ⟨ou, h4.upd hu (by simp)⟩
theorem SaysAt.nil (w : World) : SaysAt w (.slice none 0 0) [] [] := ⟨[], rfl, Own.nil _ _ _, by simp⟩
theorem sayCells_get : ∀ (l : List Sy) (us : List Value) (i : Nat) {p : Sy} {u : Value}, l[i]? = some p → us[i]? = some u → (sayCells l us)[i * 2]? = some (.int .i64 p.1) ∧ (sayCells l us)[i * 2 + 1]? = some u
  | [], _, _, _, _, h, _ => by simp at h
  | _ :: _, [], _, _, _, _, h => by simp at h
  | p :: l, u :: us, 0, _, _, h, h' => by simp at h h'; subst h h'; exact ⟨rfl, rfl⟩
  | p :: l, u :: us, i + 1, _, _, h, h' => by
    obtain ⟨g1, g2⟩ := sayCells_get l us i (by simpa using h) (by simpa using h')
    refine ⟨?_, ?_⟩
    · rw [← g1, show (i + 1) * 2 = i * 2 + 2 by omega]; rfl
    · rw [← g2, show (i + 1) * 2 + 1 = i * 2 + 1 + 2 by omega]; rfl
/-- One thing said, read. -/
theorem SaysAt.get {v : Value} {l : List Sy} {own : List Nat} (h : SaysAt w v l own) (i : Nat) {p : Sy} (hi : l[i]? = some p) :
    ∃ g off cap u, v = .slice (some ⟨g, off, none⟩) l.length cap ∧ l.length ≤ cap ∧ cap ≤ maxLen ∧ w.cell? ⟨g, off + i * 2, none⟩ = some (.int .i64 p.1) ∧ w.cell? ⟨g, off + i * 2 + 1, none⟩ = some u ∧ AvsAt w u p.2 := by
  obtain ⟨us, h1, h2, h3⟩ := h
  have hlt := (List.getElem?_eq_some_iff.1 hi).1
  obtain ⟨u, hu⟩ : ∃ u, us[i]? = some u := ⟨_, List.getElem?_eq_getElem (by omega)⟩
  obtain ⟨ou, h4⟩ := h3 i p u hi hu
  obtain ⟨g, off, cap, rfl, _, h5, h6, h7⟩ := h2.form (by omega)
  obtain ⟨g1, g2⟩ := sayCells_get l us i hi hu
  exact ⟨g, off, cap, u, rfl, h5, h6, h7 _ _ g1, by rw [Nat.add_assoc]; exact h7 _ _ g2, AvsAt.of_own h4⟩
theorem SaysAt.shape {v : Value} {l : List Sy} {own : List Nat} (h : SaysAt w v l own) : ∃ ao cap, v = .slice ao l.length cap ∧ l.length ≤ cap ∧ cap ≤ maxLen := by
  obtain ⟨us, h1, h2, h3⟩ := h
  exact h2.shape
/-- A list of one, new. -/
theorem SaysAt.one {u : Value} {ou : List Nat} {s : Int} {l : List Av} (h : Own w 85 5 u l.length (avCells l) ou) :
    SaysAt (w.alloc (.cells #[.int .i64 s, u] 191)) (.slice (some ⟨w.heap.size, 0, none⟩) 1 1) [(s, l)] [w.heap.size] := by
  refine ⟨[u], rfl, ⟨by simp [sayCells], .inr ⟨w.heap.size, 0, 1, #[.int .i64 s, u], rfl, rfl, Blk.new _ _ _, Nat.le_refl _, by simp [maxLen], by simp, rfl⟩⟩, ?_⟩
  intro i p x hi hx
  cases i with
  | zero => simp at hi hx; subst hi hx; exact ⟨ou, h.alloc _⟩
  | succ i => simp at hi
end
/-- A call whose lists lie off some blocks. -/
structure CallOff (X : List Nat) (w : World) (b : Nat) (k : K) : Prop where
  ex : ∃ vw vg ow og, Blk w b 193 (k.cells vw vg) ∧ Own w 85 5 vw k.with_.length (avCells k.with_) ow ∧ Own w 85 5 vg k.got.length (avCells k.got) og ∧ ∀ x ∈ ow ++ og, x ∉ X
section
variable {w w' : World} {b b' : Nat} {k k' : K} {X : List Nat}
theorem CallOff.at_ (h : CallOff X w b k) : CallAt w b k := by
  obtain ⟨vw, vg, ow, og, h1, h2, h3, -⟩ := h
  exact ⟨vw, vg, ow, og, h1, h2, h3⟩
theorem CallAt.offN (h : CallAt w b k) : CallOff [] w b k := by
  obtain ⟨vw, vg, ow, og, h1, h2, h3⟩ := h
  exact ⟨vw, vg, ow, og, h1, h2, h3, by simp⟩
/-- What is new is off its lists. -/
theorem CallAt.off (h : CallAt w b k) (hu : Upd [] w w') (hX : ∀ x ∈ X, w.heap.size ≤ x) : CallOff X w' b k := by
  obtain ⟨vw, vg, ow, og, h1, h2, h3⟩ := h
  refine ⟨vw, vg, ow, og, h1.upd hu (by simp), h2.upd hu (by simp), h3.upd hu (by simp), fun x hx hx2 => ?_⟩
  have := hX x hx2
  rcases List.mem_append.1 hx with hx | hx
  · have := h2.lt x hx; omega
  · have := h3.lt x hx; omega
theorem CallOff.upd {F : List Nat} (h : CallOff X w b k) (hu : Upd F w w') (hb : b ∉ F) (hF : ∀ x ∈ F, x ∈ X ∨ ∃ t cs, Blk w x t cs ∧ 85 ≠ t) : CallOff X w' b k := by
  obtain ⟨vw, vg, ow, og, h1, h2, h3, h4⟩ := h
  refine ⟨vw, vg, ow, og, h1.upd hu hb, h2.upd hu (fun x hx hx2 => ?_), h3.upd hu (fun x hx hx2 => ?_), h4⟩
  · rcases hF x hx2 with hx3 | ⟨t, cs, hb2, ht⟩
    · exact h4 x (by simp [hx]) hx3
    · exact h2.ne_blk hb2 ht hx
  · rcases hF x hx2 with hx3 | ⟨t, cs, hb2, ht⟩
    · exact h4 x (by simp [hx]) hx3
    · exact h3.ne_blk hb2 ht hx
end
/-- Things said, each with blocks of its own, apart from one another; all made since a size of the heap. -/
structure SaysN (lo : Nat) (w : World) (v : Value) (l : List Sy) (own : List Nat) : Prop where
  ex : ∃ us : List Value, ∃ ou : Nat → List Nat, us.length = l.length ∧ Own w 191 2 v l.length (sayCells l us) own ∧ (∀ k ∈ own, lo ≤ k) ∧
    (∀ (i : Nat) (p : Sy) (u : Value), l[i]? = some p → us[i]? = some u → Own w 85 5 u p.2.length (avCells p.2) (ou i) ∧ ∀ k ∈ ou i, lo ≤ k) ∧
    (∀ i j, i < l.length → j < l.length → i ≠ j → ∀ k ∈ ou i, k ∉ ou j)
section
variable {w w' : World} {b b' lo lo' : Nat} {k k' : K}
theorem SaysN.says {v : Value} {l : List Sy} {own : List Nat} (h : SaysN lo w v l own) : SaysAt w v l own := by
  obtain ⟨us, ou, h1, h2, h3, h4, h5⟩ := h
  exact ⟨us, h1, h2, fun i p u hi hu => ⟨_, (h4 i p u hi hu).1⟩⟩
theorem SaysN.low {v : Value} {l : List Sy} {own : List Nat} (h : SaysN lo w v l own) (hl : lo' ≤ lo) : SaysN lo' w v l own := by
  obtain ⟨us, ou, h1, h2, h3, h4, h5⟩ := h
  exact ⟨us, ou, h1, h2, fun k hk => Nat.le_trans hl (h3 k hk), fun i p u hi hu => ⟨(h4 i p u hi hu).1, fun k hk => Nat.le_trans hl ((h4 i p u hi hu).2 k hk)⟩, h5⟩
theorem SaysN.upd {v : Value} {l : List Sy} {own : List Nat} (h : SaysN lo w v l own) (hu : Upd [] w w') : SaysN lo w' v l own := by
  obtain ⟨us, ou, h1, h2, h3, h4, h5⟩ := h
  exact ⟨us, ou, h1, h2.upd hu (by simp), h3, fun i p u hi hx => ⟨(h4 i p u hi hx).1.upd hu (by simp), (h4 i p u hi hx).2⟩, h5⟩
theorem SaysN.nil (lo : Nat) (w : World) : SaysN lo w (.slice none 0 0) [] [] := ⟨[], fun _ => [], rfl, Own.nil _ _ _, by simp, by simp, by simp⟩
/-- A list of one, new. -/
theorem SaysN.one {u : Value} {ou : List Nat} {s : Int} {l : List Av} (h : Own w 85 5 u l.length (avCells l) ou) (hf : ∀ k ∈ ou, lo ≤ k) (hw : lo ≤ w.heap.size) :
    SaysN lo (w.alloc (.cells #[.int .i64 s, u] 191)) (.slice (some ⟨w.heap.size, 0, none⟩) 1 1) [(s, l)] [w.heap.size] := by
  refine ⟨[u], fun _ => ou, rfl, ⟨by simp [sayCells], .inr ⟨w.heap.size, 0, 1, #[.int .i64 s, u], rfl, rfl, Blk.new _ _ _, Nat.le_refl _, by simp [maxLen], by simp, rfl⟩⟩, by simpa using hw, ?_, ?_⟩
  · intro i p x hi hx
    cases i with
    | zero => simp at hi hx; subst hi hx; exact ⟨h.alloc _, hf⟩
    | succ i => simp at hi
  · intro i j hi hj hn
    simp at hi hj
    omega
end
end Go.Proofs.YtglafpdealjlnaaGreat
