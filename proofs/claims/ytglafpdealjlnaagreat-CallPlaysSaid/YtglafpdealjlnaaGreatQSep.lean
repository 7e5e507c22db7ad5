/- Things that lie apart in memory: each with the blocks that it owns, all of them made since the world w0. No program in sight. -/
import Derived.Test.YtglafpdealjlnaaGreatQLib
namespace Go.Proofs.YtglafpdealjlnaaGreat
open Go.RowKit
set_option linter.unusedVariables false

structure Thing where
  own : List Nat
  P : World → Prop
  keep : ∀ w w' F, P w → Upd F w w' → (∀ k ∈ own, k ∉ F) → P w'
  lt : ∀ w, P w → ∀ k ∈ own, k < w.heap.size
def ownT (e : TypeId) (size : Nat) (v : Value) (n : Nat) (xs : List Value) (own : List Nat) : Thing := ⟨own, fun w => Own w e size v n xs own, fun _ _ _ h hu hF => h.upd hu hF, fun _ h => h.lt⟩
def blkT (g : Nat) (t : TypeId) (cs : Array Value) : Thing := ⟨[g], fun w => Blk w g t cs, fun _ _ _ h hu hF => h.upd hu (hF g (by simp)), fun _ h k hk => by simp at hk; subst hk; exact h.lt⟩
/-- A plain fact that hangs on no memory of its own. -/
def factT (p : Prop) : Thing := ⟨[], fun _ => p, fun _ _ _ h _ _ => h, fun _ _ k hk => by simp at hk⟩

structure Sep (w0 w : World) (l : List Thing) : Prop where
  all : ∀ t ∈ l, t.P w
  dis : l.Pairwise fun s t => ∀ k ∈ s.own, k ∉ t.own
  new : ∀ t ∈ l, ∀ k ∈ t.own, w0.heap.size ≤ k
  upd : Upd [] w0 w
variable {w0 w w' : World} {l : List Thing} {t t' : Thing}
theorem Sep.nil (w : World) : Sep w w [] := ⟨by simp, .nil, by simp, Upd.refl _ _⟩
theorem Sep.get (h : Sep w0 w l) (i : Nat) (hi : l[i]? = some t) : t.P w := h.all t (List.mem_of_getElem? hi)
theorem Sep.keep (h : Sep w0 w l) (hu : Upd [] w w') : Sep w0 w' l := ⟨fun t ht => t.keep _ _ _ (h.all t ht) hu (by simp), h.dis, h.new, h.upd.trans hu⟩
theorem Sep.cons (h : Sep w0 w l) (hu : Upd [] w w') (ht : t.P w') (hn : ∀ k ∈ t.own, w.heap.size ≤ k) : Sep w0 w' (t :: l) := by
  refine ⟨?_, ?_, ?_, h.upd.trans hu⟩
  · intro s hs
    rcases List.mem_cons.1 hs with rfl | hs
    · exact ht
    · exact s.keep _ _ _ (h.all s hs) hu (by simp)
  · rw [List.pairwise_cons]
    refine ⟨fun s hs k hk hk2 => ?_, h.dis⟩
    have h1 := hn k hk
    have h2 := s.lt w (h.all s hs) k hk2
    omega
  · intro s hs k hk
    rcases List.mem_cons.1 hs with rfl | hs
    · have := hn k hk
      have := h.upd.size
      omega
    · exact h.new s hs k hk
theorem pairwise_set {α : Type} {R : α → α → Prop} (hsym : ∀ a b, R a b → R b a) : ∀ (l : List α) (i : Nat) (b : α), l.Pairwise R → (∀ j a, j ≠ i → l[j]? = some a → R b a) → (l.set i b).Pairwise R
  | [], _, _, _, _ => by simp
  | a :: l, 0, b, h, hb => by
    rw [List.set_cons_zero, List.pairwise_cons]
    refine ⟨fun x hx => ?_, (List.pairwise_cons.1 h).2⟩
    obtain ⟨j, hj⟩ := List.mem_iff_getElem?.1 hx
    exact hb (j + 1) x (by omega) (by simpa using hj)
  | a :: l, i + 1, b, h, hb => by
    rw [List.set_cons_succ, List.pairwise_cons]
    rw [List.pairwise_cons] at h
    refine ⟨fun x hx => ?_, pairwise_set hsym l i b h.2 fun j c hj hc => hb (j + 1) c (by omega) (by simpa using hc)⟩
    obtain ⟨j, hj⟩ := List.mem_iff_getElem?.1 hx
    rw [List.getElem?_set] at hj
    split at hj
    · split at hj
      · injection hj with hj
        subst hj
        exact hsym _ _ (hb 0 a (by omega) rfl)
      · cases hj
    · exact h.1 x (List.mem_of_getElem? hj)
theorem Sep.ne (h : Sep w0 w l) {i j : Nat} (hij : i ≠ j) {s : Thing} (hi : l[i]? = some t) (hj : l[j]? = some s) : ∀ k ∈ t.own, k ∉ s.own := by
  intro k hk hk2
  have hp := List.pairwise_iff_getElem.1 h.dis
  obtain ⟨li, ei⟩ := List.getElem?_eq_some_iff.1 hi
  obtain ⟨lj, ej⟩ := List.getElem?_eq_some_iff.1 hj
  rcases Nat.lt_or_gt_of_ne hij with hlt | hlt
  · exact hp i j li lj hlt k (by rw [ei]; exact hk) (by rw [ej]; exact hk2)
  · exact hp j i lj li hlt k (by rw [ej]; exact hk2) (by rw [ei]; exact hk)
/-- The thing at place i is written, or made anew; the others stay. -/
theorem Sep.set (h : Sep w0 w l) (i : Nat) (hi : l[i]? = some t) {F : List Nat} (hu : Upd F w w') (hF : ∀ k ∈ F, k ∈ t.own ∨ w.heap.size ≤ k) (ht : t'.P w') (hg : ∀ k ∈ t'.own, k ∈ t.own ∨ w.heap.size ≤ k) : Sep w0 w' (l.set i t') := by
  have hother : ∀ j s, j ≠ i → l[j]? = some s → (∀ k ∈ s.own, k ∉ F) ∧ (∀ k ∈ t'.own, k ∉ s.own) := by
    intro j s hji hj
    have hlt := s.lt w (h.all s (List.mem_of_getElem? hj))
    refine ⟨fun k hk hk2 => ?_, fun k hk hk2 => ?_⟩
    · rcases hF k hk2 with h1 | h1
      · exact h.ne hji.symm hi hj k h1 hk
      · have := hlt k hk; omega
    · rcases hg k hk with h1 | h1
      · exact h.ne hji.symm hi hj k h1 hk2
      · have := hlt k hk2; omega
  have hmem : ∀ s ∈ l.set i t', s = t' ∨ ∃ j, j ≠ i ∧ l[j]? = some s := by
    intro s hs
    obtain ⟨j, hj⟩ := List.mem_iff_getElem?.1 hs
    rw [List.getElem?_set] at hj
    split at hj
    · split at hj
      · injection hj with hj; exact .inl hj.symm
      · cases hj
    · rename_i hne
      exact .inr ⟨j, fun e => hne e.symm, hj⟩
  refine ⟨?_, ?_, ?_, ?_⟩
  · intro s hs
    rcases hmem s hs with rfl | ⟨j, hji, hj⟩
    · exact ht
    · exact s.keep _ _ _ (h.all s (List.mem_of_getElem? hj)) hu (hother j s hji hj).1
  · exact pairwise_set (fun a b hab k hk hk2 => hab k hk2 hk) l i t' h.dis fun j s hji hj => (hother j s hji hj).2
  · intro s hs k hk
    rcases hmem s hs with rfl | ⟨j, hji, hj⟩
    · rcases hg k hk with h1 | h1
      · exact h.new t (List.mem_of_getElem? hi) k h1
      · have := h.upd.size; omega
    · exact h.new s (List.mem_of_getElem? hj) k hk
  · refine h.upd.trans' hu fun x hx => .inr ?_
    rcases hF x hx with h1 | h1
    · exact h.new t (List.mem_of_getElem? hi) x h1
    · have := h.upd.size; omega
/-- The same, and a thing that is new beside it. -/
theorem Sep.set_cons (h : Sep w0 w l) (i : Nat) (hi : l[i]? = some t) {F : List Nat} (hu : Upd F w w') (hF : ∀ k ∈ F, k ∈ t.own ∨ w.heap.size ≤ k) (ht : t'.P w') (hg : ∀ k ∈ t'.own, k ∈ t.own ∨ w.heap.size ≤ k)
    {s : Thing} (hs : s.P w') (hn : ∀ k ∈ s.own, w.heap.size ≤ k) (hd : ∀ k ∈ s.own, k ∉ t'.own) : Sep w0 w' (s :: l.set i t') := by
  have h2 := h.set i hi hu hF ht hg
  refine ⟨?_, ?_, ?_, h2.upd⟩
  · intro x hx
    rcases List.mem_cons.1 hx with rfl | hx
    · exact hs
    · exact h2.all x hx
  · rw [List.pairwise_cons]
    refine ⟨fun x hx k hk hk2 => ?_, h2.dis⟩
    obtain ⟨j, hj⟩ := List.mem_iff_getElem?.1 hx
    rw [List.getElem?_set] at hj
    split at hj
    · split at hj
      · injection hj with hj; subst hj; exact hd k hk hk2
      · cases hj
    · have h1 := x.lt w (h.all x (List.mem_of_getElem? hj)) k hk2
      have := hn k hk
      omega
  · intro x hx k hk
    rcases List.mem_cons.1 hx with rfl | hx
    · have := hn k hk
      have := h.upd.size
      omega
    · exact h2.new x hx k hk
theorem Sep.drop (h : Sep w0 w (t :: l)) : Sep w0 w l := ⟨fun s hs => h.all s (List.mem_cons_of_mem _ hs), (List.pairwise_cons.1 h.dis).2, fun s hs => h.new s (List.mem_cons_of_mem _ hs), h.upd⟩
/-- The first thing takes the place of another one, which is forgotten. -/
theorem Sep.move {s : Thing} (h : Sep w0 w (s :: l)) (i : Nat) : Sep w0 w (l.set i s) := by
  have hp := List.pairwise_cons.1 h.dis
  have hmem : ∀ x ∈ l.set i s, x ∈ s :: l := by
    intro x hx
    obtain ⟨j, hj⟩ := List.mem_iff_getElem?.1 hx
    rw [List.getElem?_set] at hj
    split at hj
    · split at hj
      · injection hj with hj; subst hj; simp
      · cases hj
    · exact List.mem_cons_of_mem _ (List.mem_of_getElem? hj)
  exact ⟨fun x hx => h.all x (hmem x hx), pairwise_set (fun a b hab k hk hk2 => hab k hk2 hk) l i s hp.2 fun j x _ hj => hp.1 x (List.mem_of_getElem? hj), fun x hx => h.new x (hmem x hx), h.upd⟩
/-- The blocks of a list of things, as a frame. -/
theorem Sep.lt (h : Sep w0 w l) (i : Nat) (hi : l[i]? = some t) : ∀ k ∈ t.own, k < w.heap.size := t.lt w (h.get i hi)
end Go.Proofs.YtglafpdealjlnaaGreat
