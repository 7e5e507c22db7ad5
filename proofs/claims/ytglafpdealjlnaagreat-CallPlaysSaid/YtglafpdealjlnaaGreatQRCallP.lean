/- The document's end of a call, as it lies in a world; what it does is what the program's does. -/
import Derived.Test.YtglafpdealjlnaaGreatQCallP
import Derived.Test.YtglafpdealjlnaaGreatQBkP
namespace Go.Proofs.YtglafpdealjlnaaGreat
open Go.RowKit
set_option linter.unusedSimpArgs false
set_option linter.unusedVariables false

def K.rcells (k : K) (vw vg : Value) : Array Value := #[.int .i64 k.id, .int .i64 k.serial, .int .i64 k.peer, .bool k.out, .int .i64 k.state, vw, vg, .int .i64 k.wens, .int .i64 k.slis]
structure RCallAt (w : World) (b : Nat) (k : K) : Prop where
  ex : ∃ vw vg ow og, Blk w b 101 (k.rcells vw vg) ∧ Own w 85 5 vw k.with_.length (avCells k.with_) ow ∧ Own w 85 5 vg k.got.length (avCells k.got) og
/-- What holds of each end on its way: until it is named it has no peer. -/
structure K.inv (k : K) : Prop where
  p : k.state = 0 ∨ k.state = 1 → k.peer = 0
  st : k.state = 0 ∨ k.state = 1 ∨ k.state = 2 ∨ k.state = 3 ∨ k.state = 4
def RSaysAt (w : World) (v : Value) (l : List Sy) (own : List Nat) : Prop :=
  ∃ us : List Value, us.length = l.length ∧ Own w 91 2 v l.length (sayCells l us) own ∧ ∀ (i : Nat) (p : Sy) (u : Value), l[i]? = some p → us[i]? = some u → ∃ ou, Own w 85 5 u p.2.length (avCells p.2) ou
section
variable {w w' : World} {b b' : Nat} {k k' : K}
theorem RCallAt.upd (h : RCallAt w b k) (hu : Upd [] w w') : RCallAt w' b k := by
  obtain ⟨vw, vg, ow, og, h1, h2, h3⟩ := h
  exact ⟨vw, vg, ow, og, h1.upd hu (by simp), h2.upd hu (by simp), h3.upd hu (by simp)⟩
theorem RCallAt.lt (h : RCallAt w b k) : b < w.heap.size := by
  obtain ⟨vw, vg, ow, og, h1, h2, h3⟩ := h
  exact h1.lt
/-- Another block is written. -/
theorem RCallAt.away {t : TypeId} {cs : Array Value} (h : RCallAt w b k) (h' : Blk w b' t cs) (ht : 85 ≠ t) (hne : b ≠ b') (hu : Upd [b'] w w') : RCallAt w' b k := by
  obtain ⟨vw, vg, ow, og, h1, h2, h3⟩ := h
  exact ⟨vw, vg, ow, og, h1.upd hu (by simpa using hne), h2.upd hu (fun x hx => by simp; rintro rfl; exact h2.ne_blk h' ht hx), h3.upd hu (fun x hx => by simp; rintro rfl; exact h3.ne_blk h' ht hx)⟩
theorem CallAt.away {t : TypeId} {cs : Array Value} (h : CallAt w b k) (h' : Blk w b' t cs) (ht : 85 ≠ t) (hne : b ≠ b') (hu : Upd [b'] w w') : CallAt w' b k := by
  obtain ⟨vw, vg, ow, og, h1, h2, h3⟩ := h
  exact ⟨vw, vg, ow, og, h1.upd hu (by simpa using hne), h2.upd hu (fun x hx => by simp; rintro rfl; exact h2.ne_blk h' ht hx), h3.upd hu (fun x hx => by simp; rintro rfl; exact h3.ne_blk h' ht hx)⟩
theorem RCallAt.cells_ (h : RCallAt w b k) : ∃ vw vg, Blk w b 101 (k.rcells vw vg) := by
  obtain ⟨vw, vg, ow, og, hb, -, -⟩ := h
  exact ⟨vw, vg, hb⟩
theorem RCallAt.set (h : RCallAt w b k) (i : Nat) (v : Value) (hc : ∀ vw vg, (k.rcells vw vg).setIfInBounds i v = k'.rcells vw vg) (hw : k'.with_ = k.with_) (hg : k'.got = k.got) : RCallAt (w.setCell ⟨b, i, none⟩ v) b k' := by
  obtain ⟨vw, vg, ow, og, hb, h2, h3⟩ := h
  have hb2 := hb.set_ i v
  rw [hc] at hb2
  exact ⟨vw, vg, ow, og, hb2, by rw [hw]; exact h2.setCell _ (h2.ne_blk hb (by decide)), by rw [hg]; exact h3.setCell _ (h3.ne_blk hb (by decide))⟩
theorem RSaysAt.upd {v : Value} {l : List Sy} {own : List Nat} (h : RSaysAt w v l own) (hu : Upd [] w w') : RSaysAt w' v l own := by
  obtain ⟨us, h1, h2, h3⟩ := h
  refine ⟨us, h1, h2.upd hu (by simp), fun i p u hi hu' => ?_⟩
  obtain ⟨ou, h4⟩ := h3 i p u hi hu'
  exact ⟨ou, h4.upd hu (by simp)⟩
theorem RSaysAt.nil (w : World) : RSaysAt w (.slice none 0 0) [] [] := ⟨[], rfl, Own.nil _ _ _, by simp⟩
theorem RSaysAt.one {u : Value} {ou : List Nat} {s : Int} {l : List Av} (h : Own w 85 5 u l.length (avCells l) ou) :
    RSaysAt (w.alloc (.cells #[.int .i64 s, u] 91)) (.slice (some ⟨w.heap.size, 0, none⟩) 1 1) [(s, l)] [w.heap.size] := by
  refine ⟨[u], rfl, ⟨by simp [sayCells], .inr ⟨w.heap.size, 0, 1, #[.int .i64 s, u], rfl, rfl, Blk.new _ _ _, Nat.le_refl _, by simp [maxLen], by simp, rfl⟩⟩, ?_⟩
  intro i p x hi hx
  cases i with
  | zero => simp at hi hx; subst hi hx; exact ⟨ou, h.alloc _⟩
  | succ i => simp at hi
theorem RSaysAt.shape {v : Value} {l : List Sy} {own : List Nat} (h : RSaysAt w v l own) : ∃ ao cap, v = .slice ao l.length cap ∧ l.length ≤ cap ∧ cap ≤ maxLen := by
  obtain ⟨us, h1, h2, h3⟩ := h
  exact h2.shape
/-- What is said, fresh; the end as it is then. -/
structure RSaidEnd (w : World) (b : Nat) (p : K × List Sy) (e : Ending) (w' : World) : Prop where
  ex : ∃ v own, e = .returned v ∧ RSaysAt w' v p.2 own ∧ (∀ x ∈ own, w.heap.size ≤ x) ∧ RCallAt w' b p.1 ∧ Upd [b] w w'
/-- What is said, fresh. -/
structure RSaid (w : World) (l : List Sy) (e : Ending) (w' : World) : Prop where
  ex : ∃ v own, e = .returned v ∧ RSaysAt w' v l own ∧ (∀ x ∈ own, w.heap.size ≤ x) ∧ Upd [] w w'
end
section
variable {w w' : World} {b : Nat}
/-- Another block is written. -/
theorem RSaysAt.away {t : TypeId} {cs : Array Value} {v : Value} {l : List Sy} {own : List Nat} (h : RSaysAt w v l own) (h' : Blk w b t cs) (h1 : 91 ≠ t) (h2 : 85 ≠ t) (hu : Upd [b] w w') : RSaysAt w' v l own := by
  obtain ⟨us, a1, a2, a3⟩ := h
  refine ⟨us, a1, a2.upd hu (fun x hx => by simp; rintro rfl; exact a2.ne_blk h' h1 hx), fun i p u hi hu' => ?_⟩
  obtain ⟨ou, h4⟩ := a3 i p u hi hu'
  exact ⟨ou, h4.upd hu (fun x hx => by simp; rintro rfl; exact h4.ne_blk h' h2 hx)⟩
theorem sayCells_app : ∀ (l : List Sy) (us : List Value) (m : List Sy) (vs : List Value), us.length = l.length → sayCells (l ++ m) (us ++ vs) = sayCells l us ++ sayCells m vs
  | [], [], m, vs, _ => rfl
  | [], _ :: _, _, _, h => by simp at h
  | _ :: _, [], _, _, h => by simp at h
  | p :: l, u :: us, m, vs, h => by
    show .int .i64 p.1 :: u :: sayCells (l ++ m) (us ++ vs) = _
    rw [sayCells_app l us m vs (by simpa using h)]
    rfl
end
section
variable {w w' : World} {b : Nat} {k : K}
theorem RCallAt.awayOwn {e : TypeId} {size n : Nat} {v : Value} {xs : List Value} {own : List Nat} (h : RCallAt w b k) (ho : Own w e size v n xs own) (h1 : e ≠ 101) (h2 : 85 ≠ e) (hu : Upd own w w') : RCallAt w' b k := by
  obtain ⟨vw, vg, ow, og, a1, a2, a3⟩ := h
  exact ⟨vw, vg, ow, og, a1.upd hu (ho.ne_blk a1 h1), a2.upd hu (a2.ne_own ho h2), a3.upd hu (a3.ne_own ho h2)⟩
/-- Two lists one behind the other: what the first's blocks held is elsewhere now. -/
theorem RSaysAt.cat {v1 v2 v : Value} {l1 l2 : List Sy} {o1 o2 own : List Nat} {us1 us2 : List Value} (a1 : us1.length = l1.length) (a2 : us2.length = l2.length)
    (c1 : ∀ (i : Nat) (p : Sy) (u : Value), l1[i]? = some p → us1[i]? = some u → ∃ ou, Own w 85 5 u p.2.length (avCells p.2) ou)
    (c2 : ∀ (i : Nat) (p : Sy) (u : Value), l2[i]? = some p → us2[i]? = some u → ∃ ou, Own w 85 5 u p.2.length (avCells p.2) ou)
    (ho1 : Own w 91 2 v1 l1.length (sayCells l1 us1) o1) (hu : Upd o1 w w')
    (ho : Own w' 91 2 v (l1.length + l2.length) (sayCells l1 us1 ++ sayCells l2 us2) own) : RSaysAt w' v (l1 ++ l2) own := by
  refine ⟨us1 ++ us2, by rw [List.length_append, List.length_append, a1, a2], ?_, fun i p u hi hu' => ?_⟩
  · rw [List.length_append, sayCells_app _ _ _ _ a1]
    exact ho
  · by_cases hlt : i < l1.length
    · rw [List.getElem?_append_left hlt] at hi
      rw [List.getElem?_append_left (by omega)] at hu'
      obtain ⟨ou, h4⟩ := c1 i p u hi hu'
      exact ⟨ou, h4.upd hu (h4.ne_own ho1 (by decide))⟩
    · rw [List.getElem?_append_right (by omega)] at hi
      rw [List.getElem?_append_right (by omega), a1] at hu'
      obtain ⟨ou, h4⟩ := c2 _ p u hi hu'
      exact ⟨ou, h4.upd hu (h4.ne_own ho1 (by decide))⟩
theorem says_one {l : List Sy} {us : List Value} (c : ∀ (i : Nat) (p : Sy) (u : Value), l[i]? = some p → us[i]? = some u → ∃ ou, Own w 85 5 u p.2.length (avCells p.2) ou) : ∀ x ∈ sayCells l us, x.oneCell' = true := by
  induction l generalizing us with
  | nil => intro x hx; cases us <;> simp [sayCells] at hx
  | cons p l ih =>
    cases us with
    | nil => intro x hx; simp [sayCells] at hx
    | cons u us =>
      intro x hx
      simp only [sayCells, List.mem_cons] at hx
      rcases hx with rfl | rfl | hx
      · rfl
      · obtain ⟨ou, h4⟩ := c 0 p x rfl rfl
        obtain ⟨ao, cap, rfl, -, -⟩ := h4.shape
        rfl
      · exact ih (fun i q y hi hy => c (i + 1) q y (by simpa using hi) (by simpa using hy)) x hx
end
/-- A call whose lists lie off some blocks. -/
structure RCallOff (X : List Nat) (w : World) (b : Nat) (k : K) : Prop where
  ex : ∃ vw vg ow og, Blk w b 101 (k.rcells vw vg) ∧ Own w 85 5 vw k.with_.length (avCells k.with_) ow ∧ Own w 85 5 vg k.got.length (avCells k.got) og ∧ ∀ x ∈ ow ++ og, x ∉ X
section
variable {w w' : World} {b b' : Nat} {k k' : K} {X : List Nat}
theorem RCallOff.at_ (h : RCallOff X w b k) : RCallAt w b k := by
  obtain ⟨vw, vg, ow, og, h1, h2, h3, -⟩ := h
  exact ⟨vw, vg, ow, og, h1, h2, h3⟩
theorem RCallAt.offN (h : RCallAt w b k) : RCallOff [] w b k := by
  obtain ⟨vw, vg, ow, og, h1, h2, h3⟩ := h
  exact ⟨vw, vg, ow, og, h1, h2, h3, by simp⟩
/-- What is new is off its lists. -/
theorem RCallAt.off (h : RCallAt w b k) (hu : Upd [] w w') (hX : ∀ x ∈ X, w.heap.size ≤ x) : RCallOff X w' b k := by
  obtain ⟨vw, vg, ow, og, h1, h2, h3⟩ := h
  refine ⟨vw, vg, ow, og, h1.upd hu (by simp), h2.upd hu (by simp), h3.upd hu (by simp), fun x hx hx2 => ?_⟩
  have := hX x hx2
  rcases List.mem_append.1 hx with hx | hx
  · have := h2.lt x hx; omega
  · have := h3.lt x hx; omega
theorem RCallOff.upd {F : List Nat} (h : RCallOff X w b k) (hu : Upd F w w') (hb : b ∉ F) (hF : ∀ x ∈ F, x ∈ X ∨ ∃ t cs, Blk w x t cs ∧ 85 ≠ t) : RCallOff X w' b k := by
  obtain ⟨vw, vg, ow, og, h1, h2, h3, h4⟩ := h
  refine ⟨vw, vg, ow, og, h1.upd hu hb, h2.upd hu (fun x hx hx2 => ?_), h3.upd hu (fun x hx hx2 => ?_), h4⟩
  · rcases hF x hx2 with hx3 | ⟨t, cs, hb2, ht⟩
    · exact h4 x (by simp [hx]) hx3
    · exact h2.ne_blk hb2 ht hx
  · rcases hF x hx2 with hx3 | ⟨t, cs, hb2, ht⟩
    · exact h4 x (by simp [hx]) hx3
    · exact h3.ne_blk hb2 ht hx
end
end Go.Proofs.YtglafpdealjlnaaGreat
