/- Plain: the book's lists of things that hold lists themselves: each with its copy, alike by a relation. No program in sight. -/
import Derived.Test.YtglafpdealjlnaaGreatQBkP
import Derived.Test.YtglafpdealjlnaaGreatQLib
namespace Go.Proofs.YtglafpdealjlnaaGreat
open Go.RowKit
set_option linter.unusedSimpArgs false
set_option linter.unusedVariables false

/-- A relation of lists that lasts where nothing of a type is written. -/
def RelLasts {α : Type} (rel : World → List α → List α → Prop) (d : TypeId) : Prop :=
  ∀ (T : List TypeId) (lo : Nat) (w w' : World) (l m : List α), d ∉ T → UpdT T lo w w' → rel w l m → rel w' l m

section
variable {α : Type} (rel : World → List α → List α → Prop) (c : α → List Value) (e oe : TypeId) (size κ : Nat)
/-- As KindAt; a list and its copy are alike by rel. -/
def KindAtN (X : List Nat) (w0 w : World) (cs : Array Value) (R : List (Bit α)) : Prop :=
  ∃ ao cap oo aw cw ow, ∃ C : List (Bit α), cs[2 * κ]? = some (.slice ao R.length cap) ∧ cs[2 * κ + 1]? = some (.slice aw R.length cw) ∧
    Own w oe 1 (.slice ao R.length cap) R.length (R.map Bit.v) oo ∧ Own w oe 1 (.slice aw R.length cw) R.length (C.map Bit.v) ow ∧ (∀ k ∈ oo, k ∉ ow) ∧ (∀ k ∈ oo ++ ow, w0.heap.size ≤ k) ∧
    (C.length = R.length ∧ ∀ (i : Nat) (b u : Bit α), R[i]? = some b → C[i]? = some u → rel w b.l u.l) ∧ (∀ b ∈ C, Held c e size w b) ∧ Sep w0 w ((R.map fun b => (b, b)).map (duoT c e size)) ∧ R.length ≤ 250 ∧ (∀ b ∈ R, b.l.length ≤ 100000) ∧
    (∀ k ∈ oo ++ ow, k ∉ X) ∧ (∀ b ∈ C, ∀ k ∈ b.own, k ∉ X) ∧ ∀ b ∈ R, ∀ k ∈ b.own, k ∉ X
/-- A fresh list alike to l. -/
def GivesN (l : List α) (w : World) (en : Ending) (w' : World) : Prop :=
  ∃ ao cap own, ∃ m : List α, m.length = l.length ∧ en = .returned (.slice ao m.length cap) ∧ Own w' e size (.slice ao m.length cap) m.length (m.flatMap c) own ∧ (∀ k ∈ own, w.heap.size ≤ k) ∧ rel w' l m ∧ Upd [] w w'
/-- A copy is made and put behind the copies: stage by stage. -/
def addN (oe bt : TypeId) (w2 : World) (g : Nat) (cs1 : Array Value) (ow : List Nat) (n : Nat) (xs : List Value) (l : List α) (vs : List Value) (W : World) : Prop := match vs with
  | [] => Upd [] w2 W
  | [u] => Upd [] w2 W ∧ ∃ ao cap own, ∃ m : List α, m.length = l.length ∧ rel W l m ∧ u = .slice ao m.length cap ∧ Own W e size (.slice ao m.length cap) m.length (m.flatMap c) own ∧ ∀ k ∈ own, w2.heap.size ≤ k
  | [u, x] => Upd [] w2 W ∧ ∃ ao cap own, ∃ m : List α, m.length = l.length ∧ rel W l m ∧ u = .slice ao m.length cap ∧ Own W e size (.slice ao m.length cap) m.length (m.flatMap c) own ∧ (∀ k ∈ own, w2.heap.size ≤ k) ∧ ∃ gx, x = .slice (some ⟨gx, 0, none⟩) 1 1 ∧ Blk W gx oe #[.slice ao m.length cap]
  | [u, _, y] => Upd ow w2 W ∧ ∃ ao cap own, ∃ m : List α, m.length = l.length ∧ rel W l m ∧ u = .slice ao m.length cap ∧ Own W e size (.slice ao m.length cap) m.length (m.flatMap c) own ∧ (∀ k ∈ own, w2.heap.size ≤ k) ∧
      ∃ ay cy oy, y = .slice ay (n + 1) cy ∧ Own W oe 1 (.slice ay (n + 1) cy) (n + 1) (xs ++ [.slice ao m.length cap]) oy ∧ ∀ k, k ∈ oy → k ∈ ow ∨ w2.heap.size ≤ k
  | [u, _, y, _] => Upd (g :: ow) w2 W ∧ ∃ ao cap own, ∃ m : List α, m.length = l.length ∧ rel W l m ∧ Own W e size (.slice ao m.length cap) m.length (m.flatMap c) own ∧ (∀ k ∈ own, w2.heap.size ≤ k) ∧
      ∃ ay cy oy, Own W oe 1 (.slice ay (n + 1) cy) (n + 1) (xs ++ [.slice ao m.length cap]) oy ∧ (∀ k, k ∈ oy → k ∈ ow ∨ w2.heap.size ≤ k) ∧ Blk W g bt (cs1.setIfInBounds (2 * κ + 1) (.slice ay (n + 1) cy))
  | _ => False
/-- What a list put into the book leaves. -/
def AddedN (X : List Nat) (bt : TypeId) (w0 w : World) (g : Nat) (cs : Array Value) (R : List (Bit α)) (b : Bit α) (en : Ending) (w' : World) : Prop :=
  en = .returned (.tuple #[]) ∧ ∃ cs', Blk w' g bt cs' ∧ KindAtN rel c e oe size κ X w0 w' cs' (if R.length < 250 then R ++ [b] else R) ∧ (∀ j, j ≠ 2 * κ → j ≠ 2 * κ + 1 → cs'[j]? = cs[j]?) ∧ UpdT [bt, oe] w0.heap.size w w'
end
section
variable {α : Type} {rel : World → List α → List α → Prop} {c : α → List Value} {e oe d : TypeId} {size κ : Nat} {w0 w w' : World} {cs : Array Value} {mk : Nat → Nat → α}
theorem addN_upd {oe bt : TypeId} {w2 : World} {g : Nat} {cs1 : Array Value} {ow : List Nat} {n : Nat} {xs : List Value} {l : List α} {vs : List Value} {W : World} (h : addN rel c e size κ oe bt w2 g cs1 ow n xs l vs W) (hv : vs.length ≤ 2) : Upd [] w2 W := by
  match vs, hv with
  | [], _ => exact h
  | [_], _ => exact h.1
  | [_, _], _ => exact h.1
theorem KindAtN.updT {X : List Nat} {T : List TypeId} {R : List (Bit α)} (hr : RelLasts rel d) (h : KindAtN rel c e oe size κ X w0 w cs R) (hu : UpdT T w0.heap.size w w') (h1 : e ∉ T) (h2 : oe ∉ T) (h3 : d ∉ T) : KindAtN rel c e oe size κ X w0 w' cs R := by
  obtain ⟨ao, cap, oo, aw, cw, ow, C, a1, a2, a3, a4, a5, a6, ⟨a7, b7⟩, a8, a9, r⟩ := h
  exact ⟨ao, cap, oo, aw, cw, ow, C, a1, a2, a3.updT hu h2, a4.updT hu h2, a5, a6, ⟨a7, fun i b u hb hc => hr T _ _ _ _ _ h3 hu (b7 i b u hb hc)⟩, fun b hb => (a8 b hb).updT hu h1, a9.updTD hu h1, r⟩
theorem KindAtN.upd {X : List Nat} {R : List (Bit α)} (hr : RelLasts rel d) (h : KindAtN rel c e oe size κ X w0 w cs R) (hu : Upd [] w w') : KindAtN rel c e oe size κ X w0 w' cs R := h.updT (T := []) hr (.of_nil hu) (by simp) (by simp) (by simp)
theorem KindAtN.lt {X : List Nat} {R : List (Bit α)} (h : KindAtN rel c e oe size κ X w0 w cs R) : ∀ d ∈ R, ∀ k ∈ d.own, k < w.heap.size := by
  obtain ⟨ao, cap, oo, aw, cw, ow, C, a1, a2, a3, a4, a5, a6, a7, a8, a9, r⟩ := h
  exact fun d hd k hk => Own.lt (a9.heldA (List.mem_map_of_mem (f := fun b => (b, b)) hd)) k hk
/-- What is new may join what they keep off. -/
theorem KindAtN.off {X X' : List Nat} {R : List (Bit α)} (h : KindAtN rel c e oe size κ X w0 w cs R) (hX : ∀ k ∈ X', k ∈ X ∨ w.heap.size ≤ k) : KindAtN rel c e oe size κ X' w0 w cs R := by
  have hlt := h.lt
  obtain ⟨ao, cap, oo, aw, cw, ow, C, a1, a2, a3, a4, a5, a6, a7, a8, a9, a10, a11, x1, x2, x3⟩ := h
  refine ⟨ao, cap, oo, aw, cw, ow, C, a1, a2, a3, a4, a5, a6, a7, a8, a9, a10, a11, fun k hk hk2 => ?_, fun b hb k hk hk2 => ?_, fun b hb k hk hk2 => ?_⟩
  · rcases hX k hk2 with h | h
    · exact x1 k hk h
    · rcases List.mem_append.1 hk with h3 | h3
      · have := a3.lt k h3; omega
      · have := a4.lt k h3; omega
  · rcases hX k hk2 with h | h
    · exact x2 b hb k hk h
    · have := Own.lt (a8 b hb) k hk; omega
  · rcases hX k hk2 with h | h
    · exact x3 b hb k hk h
    · have := hlt b hb k hk; omega
theorem KindAtN.cells {X : List Nat} {cs' : Array Value} {R : List (Bit α)} (h : KindAtN rel c e oe size κ X w0 w cs R) (h1 : cs'[2 * κ]? = cs[2 * κ]?) (h2 : cs'[2 * κ + 1]? = cs[2 * κ + 1]?) : KindAtN rel c e oe size κ X w0 w cs' R := by
  obtain ⟨ao, cap, oo, aw, cw, ow, C, a1, a2, r⟩ := h
  exact ⟨ao, cap, oo, aw, cw, ow, C, h1.trans a1, h2.trans a2, r⟩
theorem KindAtN.zero {X : List Nat} (w0 w : World) (h0 : Upd [] w0 w) (h1 : cs[2 * κ]? = some (.slice none 0 0)) (h2 : cs[2 * κ + 1]? = some (.slice none 0 0)) : KindAtN rel c e oe size κ X w0 w cs [] :=
  ⟨none, 0, [], none, 0, [], [], h1, h2, Own.nil _ _ _, Own.nil _ _ _, by simp, by simp, ⟨rfl, by simp⟩, by simp, ⟨by simp, .nil, by simp, h0⟩, by simp, by simp, by simp, by simp, by simp⟩
theorem KindAtN.ups {X : List Nat} {R : List (Bit α)} (h : KindAtN rel c e oe size κ X w0 w cs R) : Upd [] w0 w := by
  obtain ⟨ao, cap, oo, aw, cw, ow, C, a1, a2, a3, a4, a5, a6, a7, a8, a9, r⟩ := h
  exact a9.upd
/-- A list and its copy stand behind the others. -/
theorem KindAtN.add {X : List Nat} {cs' : Array Value} {R C : List (Bit α)} {b u : Bit α} {ao aw : Option Addr} {cap cw : Nat} {oo ow : List Nat} {T : List TypeId} (hr : RelLasts rel d) (hu : UpdT T w0.heap.size w w') (h1 : e ∉ T) (h3 : d ∉ T) (hn : R.length < 250)
    (a7 : C.length = R.length ∧ ∀ (i : Nat) (b u : Bit α), R[i]? = some b → C[i]? = some u → rel w b.l u.l) (a8 : ∀ b ∈ C, Held c e size w b) (a9 : Sep w0 w ((R.map fun b => (b, b)).map (duoT c e size))) (a11 : ∀ b ∈ R, b.l.length ≤ 100000)
    (hb : Held c e size w' b) (hl : b.l.length ≤ 100000) (hlo : ∀ k ∈ b.own, w0.heap.size ≤ k) (hnew : ∀ d ∈ R, ∀ k ∈ d.own, k ∉ b.own) (hcu : Held c e size w' u) (hcl : rel w' b.l u.l)
    (k1 : cs'[2 * κ]? = some (.slice ao (R.length + 1) cap)) (k2 : cs'[2 * κ + 1]? = some (.slice aw (R.length + 1) cw))
    (o1 : Own w' oe 1 (.slice ao (R.length + 1) cap) (R.length + 1) (R.map Bit.v ++ [b.v]) oo) (o2 : Own w' oe 1 (.slice aw (R.length + 1) cw) (R.length + 1) (C.map Bit.v ++ [u.v]) ow)
    (d1 : ∀ k ∈ oo, k ∉ ow) (d2 : ∀ k ∈ oo ++ ow, w0.heap.size ≤ k) (x1 : ∀ k ∈ oo ++ ow, k ∉ X) (x2 : ∀ b ∈ C, ∀ k ∈ b.own, k ∉ X) (x3 : ∀ b ∈ R, ∀ k ∈ b.own, k ∉ X) (x4 : ∀ k ∈ b.own, k ∉ X) (x5 : ∀ k ∈ u.own, k ∉ X) :
    KindAtN rel c e oe size κ X w0 w' cs' (R ++ [b]) := by
  refine ⟨ao, cap, oo, aw, cw, ow, C ++ [u], ?_, ?_, ?_, ?_, d1, d2, ⟨?_, ?_⟩, ?_, ?_, ?_, ?_, x1, ?_, ?_⟩
  · rw [List.length_append]; exact k1
  · rw [List.length_append]; exact k2
  · rw [List.length_append, List.map_append]; exact o1
  · rw [List.length_append, List.map_append]; exact o2
  · rw [List.length_append, List.length_append, a7.1]; rfl
  · intro i x y hx hy
    by_cases hi : i < R.length
    · rw [List.getElem?_append_left hi] at hx
      rw [List.getElem?_append_left (by rw [a7.1]; exact hi)] at hy
      exact hr T _ _ _ _ _ h3 hu (a7.2 i x y hx hy)
    · rw [List.getElem?_append_right (by omega)] at hx
      rw [List.getElem?_append_right (by rw [a7.1]; omega), a7.1] at hy
      have hi0 : i - R.length = 0 := by
        have := (List.getElem?_eq_some_iff.1 hx).1
        simp at this
        omega
      rw [hi0] at hx hy
      simp at hx hy
      subst hx hy
      exact hcl
  · intro d hd
    rcases List.mem_append.1 hd with hd | hd
    · exact (a8 d hd).updT hu h1
    · simp at hd; subst hd; exact hcu
  · rw [List.map_append, List.map_append]
    refine (a9.updTD hu h1).snoc (Upd.refl _ _) (duoT_same c e size hb) (fun k hk => hlo k (by simpa [duoT] using hk)) ?_
    intro s hs k hk hk2
    obtain ⟨d, hd, rfl⟩ := List.mem_map.1 hs
    obtain ⟨d2, hd2, rfl⟩ := List.mem_map.1 hd
    exact hnew d2 hd2 k (by simpa [duoT] using hk) (by simpa [duoT] using hk2)
  · rw [List.length_append, List.length_singleton]; omega
  · intro d hd
    rcases List.mem_append.1 hd with hd | hd
    · exact a11 d hd
    · simp at hd; subst hd; exact hl
  · intro d hd
    rcases List.mem_append.1 hd with hd | hd
    · exact x2 d hd
    · simp at hd; subst hd; exact x5
  · intro d hd
    rcases List.mem_append.1 hd with hd | hd
    · exact x3 d hd
    · simp at hd; subst hd; exact x4
end
/-- A slice in a struct, as what it reads: some values. -/
structure Sl where
  ao : Option Addr
  n : Nat
  cap : Nat
def Sl.val (s : Sl) : Value := .slice s.ao s.n s.cap
/-- It reads as these values, whose blocks are of their type. -/
def SlAt (e : TypeId) (w : World) (s : Sl) (l : List Av) : Prop := ∃ own, s.n = l.length ∧ Own w e 5 s.val l.length (avCells l) own
theorem SlAt.updT {e : TypeId} {T : List TypeId} {lo : Nat} {w w' : World} {s : Sl} {l : List Av} (h : SlAt e w s l) (hu : UpdT T lo w w') (h1 : e ∉ T) : SlAt e w' s l := by
  obtain ⟨own, h2, h3⟩ := h
  exact ⟨own, h2, h3.updT hu h1⟩
theorem SlAt.upd {e : TypeId} {w w' : World} {s : Sl} {l : List Av} (h : SlAt e w s l) (hu : Upd [] w w') : SlAt e w' s l := h.updT (T := []) (lo := 0) (.of_nil hu) (by simp)
theorem SlAt.avs {e : TypeId} {w : World} {s : Sl} {l : List Av} (h : SlAt e w s l) : AvsAt w s.val l := by
  obtain ⟨own, h2, h3⟩ := h
  exact AvsAt.of_own h3
theorem SlAt.nil (e : TypeId) (w : World) : SlAt e w ⟨none, 0, 0⟩ [] := ⟨[], rfl, Own.nil _ _ _⟩
end Go.Proofs.YtglafpdealjlnaaGreat
