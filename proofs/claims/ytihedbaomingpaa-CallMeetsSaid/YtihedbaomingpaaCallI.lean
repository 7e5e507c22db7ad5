/- A call: what stays in order; what one end says, taken by another one. -/
import Derived.Test.YtihedbaomingpaaCallH
namespace Go.Proofs.Ytihedbaomingpaa
open Go.RowKit
set_option linter.unusedSimpArgs false
set_option linter.unusedVariables false
set_option maxRecDepth 20000

theorem K.new_ok (id serial : Int) (out : Bool) : (K.new id serial out).ok := ⟨rfl, by simp [K.new], by simp [K.new], by simp [K.new], by simp [K.new], by simp [K.new], by simp [K.new]⟩
theorem K.ok.same {k k' : K} (h : k.ok) (h1 : k'.made = k.made) (h2 : k'.wens = k.wens) (h3 : k'.slis = k.slis) (h4 : k'.with_ = k.with_) (h5 : k'.got = k.got) : k'.ok := by
  obtain ⟨a1, a2, a3, a4, a5, a6, a7⟩ := h
  exact ⟨h1 ▸ a1, h2 ▸ a2, h2 ▸ a3, h3 ▸ a4, h3 ▸ a5, h4 ▸ a6, h5 ▸ a7⟩
theorem K.openC_ok {k : K} (h : k.ok) : k.openC.1.ok := by
  unfold K.openC
  split
  · exact h.same rfl rfl rfl rfl rfl
  · exact h
theorem K.fin_ok {k : K} (h : k.ok) (code : Int) : (k.fin code).1.ok := h.same rfl rfl rfl rfl rfl
theorem K.close_ok {k : K} (h : k.ok) (code : Int) : (k.close code).1.ok := by
  unfold K.close
  (repeat' split) <;> first | exact h | exact h.same rfl rfl rfl rfl rfl
theorem K.take_ok {k : K} (h : k.ok) (l : List Av) (hl : ∀ a ∈ l, a.val.size ≤ maxLen) : (k.take l).1.ok := by
  have hn : (k.named l).1.ok := by
    unfold K.named
    (repeat' split) <;> exact h.same rfl rfl rfl rfl rfl
  have hh : ∀ a b, (k.handle a b l).1.ok := by
    intro a b
    unfold K.handle
    (repeat' split)
    · exact hn
    · obtain ⟨a1, a2, a3, a4, a5, a6, a7⟩ := h
      exact ⟨a1, a2, a3, a4, a5, a6, hl⟩
    · obtain ⟨a1, a2, a3, a4, a5, a6, a7⟩ := h
      refine ⟨a1, ?_, ?_, a4, a5, a6, a7⟩ <;> simp only <;> omega
    · obtain ⟨a1, a2, a3, a4, a5, a6, a7⟩ := h
      refine ⟨a1, a2, a3, ?_, ?_, a6, a7⟩ <;> simp only <;> omega
    · exact h
  unfold K.take
  (repeat' split) <;> first | exact h | exact hh _ _ | exact h.same rfl rfl rfl rfl rfl
/-- One thing said, read; it stays while calls are written. -/
theorem SaysAt.one_get {w : World} {v : Value} {p : Sy} {own : List Nat} (h : SaysAt w v [p] own) :
    ∃ g off cap u, v = .slice (some ⟨g, off, none⟩) 1 cap ∧ 1 ≤ cap ∧ cap ≤ maxLen ∧ w.cell? ⟨g, off, none⟩ = some (.int .i64 p.1) ∧ w.cell? ⟨g, off + 1, none⟩ = some u ∧ AvsAt w u p.2 ∧
      ∀ W b k, CallAt w b k → Upd [b] w W → AvsAt W u p.2 := by
  obtain ⟨us, h1, h2, h3⟩ := h
  match us, h1 with
  | [u], _ =>
    obtain ⟨ou, h4⟩ := h3 0 p u rfl rfl
    obtain ⟨g, off, cap, rfl, _, h5, h6, h7⟩ := h2.form (by simp)
    refine ⟨g, off, cap, u, rfl, h5, h6, h7 0 _ rfl, h7 1 _ rfl, AvsAt.of_own h4, fun W b k hc hu => AvsAt.of_own (h4.upd hu ?_)⟩
    obtain ⟨vw, vg, ow, og, g1, _, _⟩ := hc
    intro x hx
    simp
    rintro rfl
    exact h4.ne_blk g1 (by decide) hx
theorem AvsAt.shape {w : World} {u : Value} {l : List Av} (h : AvsAt w u l) : ∃ ao n c, u = .slice ao n c := by
  obtain ⟨ao, c, rfl, _⟩ := h
  exact ⟨ao, _, c, rfl⟩
/-- What one end says is taken by another one: stage by stage. -/
def takeS (w0 : World) (b : Nat) (p : K × List Sy) (vs : List Value) (w : World) : Prop := match vs with
  | [] => Upd [] w0 w
  | [v] => ∃ own, SaysAt w v p.2 own ∧ CallAt w b p.1 ∧ Upd [b] w0 w
  | [_, v] => ∃ own, SaysAt w v p.2 own ∧ CallAt w b p.1 ∧ Upd [b] w0 w
  | _ => False
theorem SaysAt.one_cell {w : World} {g off n cap : Nat} {p : Sy} {own : List Nat} (h : SaysAt w (.slice (some ⟨g, off, none⟩) n cap) [p] own) : w.cell? ⟨g, off, none⟩ = some (.int .i64 p.1) := by
  obtain ⟨g', off', cap', u, h1, _, _, h2, _⟩ := h.one_get
  simp at h1
  obtain ⟨⟨rfl, rfl⟩, _, _⟩ := h1
  exact h2
def al0 : List Av := [numAv 0 10 2, numAv 14 5 2, numAv 15 1 4]
def al1 : List Av := [numAv 0 11 2, numAv 14 9 2]
def al2 : List Av := [numAv 0 12 2, numAv 24 10000000 4, numAv 19 1 4]
def ka1 : K := (K.new 5 1 false).openC.1
def kb1 : K := ((K.new 9 1 false).take al0).1
def ka2 : K := (ka1.take al1).1
def kb2 : K := (kb1.take al2).1
theorem al_open : (K.new 5 1 false).openC.2 = [(0, al0)] := by decide +kernel
theorem al_b1 : ((K.new 9 1 false).take al0).2 = [(5, al1)] := by decide +kernel
theorem al_a2 : (ka1.take al1).2 = [(9, al2)] := by decide +kernel
theorem al_b2 : (kb1.take al2).2 = [] := by decide +kernel
theorem al_end : ka2.id = 5 ∧ ka2.peer = 9 ∧ ka2.state = 3 ∧ kb2.id = 9 ∧ kb2.peer = 5 ∧ kb2.state = 3 := by decide +kernel
theorem al_made : ka2.made = true ∧ kb2.made = true := by decide +kernel
theorem numAv_small (k v : Int) (n : Nat) (hn : n ≤ 8) : (numAv k v n).val.size ≤ maxLen := by simp only [numAv, be_size, maxLen]; omega
theorem al0_small : ∀ a ∈ al0, a.val.size ≤ maxLen := by
  intro a ha
  simp only [al0, List.mem_cons, List.not_mem_nil, or_false] at ha
  rcases ha with rfl | rfl | rfl <;> exact numAv_small _ _ _ (by omega)
theorem al1_small : ∀ a ∈ al1, a.val.size ≤ maxLen := by
  intro a ha
  simp only [al1, List.mem_cons, List.not_mem_nil, or_false] at ha
  rcases ha with rfl | rfl <;> exact numAv_small _ _ _ (by omega)
theorem al2_small : ∀ a ∈ al2, a.val.size ≤ maxLen := by
  intro a ha
  simp only [al2, List.mem_cons, List.not_mem_nil, or_false] at ha
  rcases ha with rfl | rfl | rfl <;> exact numAv_small _ _ _ (by omega)
end Go.Proofs.Ytihedbaomingpaa
