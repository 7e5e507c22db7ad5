/- The walk of chapter 20's 'alive', and small words on items. -/
import Derived.Test.YtdccmlpikjbcaaaGreatCtlH
namespace Go.Proofs.YtdccmlpikjbcaaaGreat
open Go.RowKit
set_option maxRecDepth 100000

theorem items_get (l : List Item) (k : Nat) {i : Item} (h : l[k]? = some i) : (items l)[k * 3]? = some (.int .i64 i.ns) ∧ (items l)[k * 3 + 1]? = some (.int .i64 i.nr) ∧ (items l)[k * 3 + 2]? = some (.string i.body) := by
  induction l generalizing k with
  | nil => simp at h
  | cons a l ih =>
    cases k with
    | zero => simp at h; subst h; exact ⟨rfl, rfl, rfl⟩
    | succ k =>
      obtain ⟨h1, h2, h3⟩ := ih k (by simpa using h)
      refine ⟨?_, ?_, ?_⟩
      · rw [← h1, show (k + 1) * 3 = k * 3 + 3 by omega]; rfl
      · rw [← h2, show (k + 1) * 3 + 1 = k * 3 + 1 + 3 by omega]; rfl
      · rw [← h3, show (k + 1) * 3 + 2 = k * 3 + 2 + 3 by omega]; rfl
/-- One item, read. -/
theorem Own.item {w : World} {v : Value} {l : List Item} {oo : List Nat} (h : Own w 53 3 v l.length (items l) oo) (k : Nat) {i : Item} (hk : l[k]? = some i) :
    ∃ g off cap, v = .slice (some ⟨g, off, none⟩) l.length cap ∧ oo = [g] ∧ l.length ≤ cap ∧ w.cell? ⟨g, off + k * 3, none⟩ = some (.int .i64 i.ns) ∧ w.cell? ⟨g, off + k * 3 + 1, none⟩ = some (.int .i64 i.nr) ∧ w.cell? ⟨g, off + k * 3 + 2, none⟩ = some (.string i.body) := by
  have hl : 0 < l.length := by
    rcases Nat.eq_zero_or_pos l.length with h0 | h0
    · rw [List.eq_nil_of_length_eq_zero h0] at hk; simp at hk
    · exact h0
  obtain ⟨g, off, cap, h1, h2, h3, h4, h5⟩ := h.form hl
  obtain ⟨k1, k2, k3⟩ := items_get l k hk
  exact ⟨g, off, cap, h1, h2, h3, h5 _ _ k1, by rw [Nat.add_assoc]; exact h5 _ _ k2, by rw [Nat.add_assoc]; exact h5 _ _ k3⟩

/-- What is of another type than a channel's blocks is none of them. -/
theorem CtlAt.ne_own {w : World} {b : Nat} {c : C} {own : List Nat} (h : CtlAt w b c own) {e : TypeId} {size n : Nat} {v : Value} {xs : List Value} {oo : List Nat} (ho : Own w e size v n xs oo)
    (h1 : e ≠ 9) (h2 : e ≠ 81) : ∀ k, k ∈ oo → k ∉ own := by
  obtain ⟨ok, vw, vf, ow, of, k1, k2, k3, k4, rfl⟩ := h
  intro k hk
  simp only [List.mem_cons, List.mem_append, not_or]
  exact ⟨fun e => ho.ne_blk k1 h2 (e ▸ hk), ho.ne_own k2 h1 k hk, ho.ne_own k3 h1 k hk⟩

def av0 : C := C.new 4 10 2 5 65535
def av1 : C := (av0.send ⟨#[120]⟩).1
def av2 : C := (av1.send ⟨#[121]⟩).1
def av3 : C := av2.out.1
def av4 : C := (av3.take 65535 0 ⟨#[]⟩).1

set_option maxRecDepth 100000 in
set_option maxHeartbeats 2000000 in
theorem alive_any (w : World) : Calls Tryz.prog 4 #[] w fun e w' => e = .returned (.bool true) ∧ Upd [] w w' := by
  have e1 : (av0.send ⟨#[120]⟩).2 = 0 := by rfl
  have e2 : (av1.send ⟨#[121]⟩).2 = 0 := by rfl
  have e3 : av2.out.2 = [⟨65535, 65535, ⟨#[120]⟩⟩] := by rfl
  have e4 : (av3.take 65535 0 ⟨#[]⟩).2 = [] := by rfl
  have e5 : av4.out.2 = [⟨0, 65535, ⟨#[121]⟩⟩] := by rfl
  have e6 : bef 65535 0 = true := by rfl
  have e7 : bef 0 32768 = false := by rfl
  have E := Lib.hid (And.intro e1 (And.intro e2 (And.intro e3 (And.intro e4 (And.intro e5 (And.intro e6 e7))))))
  clear e1 e2 e3 e4 e5 e6 e7
  go_enter Tryz.func4, Tryz.ntmps4
  go_wp2_with fail
  refine (new_at (by constructor <;> omega) w).mono ?_
  rintro e w1 ⟨rfl, h1, u1, z1⟩
  go_wp2_with fail
  refine (send_at h1 ⟨#[120]⟩).mono ?_
  rintro e w2 ⟨rfl, ⟨o2, h2, g2⟩, u2⟩
  have h2 : CtlAt w2 w.heap.size av1 o2 := h2
  rw [show ((C.new 4 10 2 5 65535).send ⟨#[120]⟩).2 = 0 from E.out.1]
  go_wp2_with fail
  refine (send_at h2 ⟨#[121]⟩).mono ?_
  rintro e w3 ⟨rfl, ⟨o3, h3, g3⟩, u3⟩
  have h3 : CtlAt w3 w.heap.size av2 o3 := h3
  rw [E.out.2.1]
  go_wp2_with fail
  refine (out_at h3).mono ?_
  rintro e w4 ⟨⟨v4, p4, rfl, q4, r4⟩, ⟨o4, h4, g4⟩, u4⟩
  have h4 : CtlAt w4 w.heap.size av3 o4 := h4
  go_wp2_with fail
  refine (take_at h4 65535 0 ⟨#[]⟩ (by simp [ByteArray.size])).mono ?_
  rintro e w5 ⟨⟨v5, p5, rfl, q5, r5⟩, h5, u5⟩
  have h5 : CtlAt w5 w.heap.size av4 o4 := h5
  go_wp2_with fail
  refine (out_at h5).mono ?_
  rintro e w6 ⟨⟨v6, p6, rfl, q6, r6⟩, ⟨o6, h6, g6⟩, u6⟩
  have z4 := (q4.upd u5 (h4.ne_own q4 (by decide) (by decide)))
  have z4 := (z4.upd u6 (h5.ne_own z4 (by decide) (by decide)))
  rw [E.out.2.2.1] at z4
  rw [show (av3.take 65535 0 ⟨#[]⟩).2 = [] from E.out.2.2.2.1] at q5
  rw [E.out.2.2.2.2.1] at q6
  obtain ⟨g4', f4, k4, rfl, _, l4, a1, a2, a3⟩ := Own.item z4 0 (i := ⟨65535, 65535, ⟨#[120]⟩⟩) rfl
  obtain ⟨g6', f6, k6, rfl, _, l6, b1, b2, b3⟩ := Own.item q6 0 (i := ⟨0, 65535, ⟨#[121]⟩⟩) rfl
  obtain ⟨ao, cap, rfl, _, _⟩ := q5.shape
  have E6 := E.out.2.2.2.2.2
  clear z4 q4 q5 q6 h1 h2 h3 h4 h5 h6 r4 r5 r6
  have n1 : New w [w.heap.size] := fun k hk => by simp at hk; omega
  have n2 := n1.grew g2 u1.size
  have v2 := u1.new u2 n1
  have n3 := n2.grew g3 v2.size
  have v3 := v2.new u3 n2
  have n4 := n3.grew g4 v3.size
  have U := Lib.hid (((v3.new u4 n3).new u5 n4).new u6 n4)
  clear n1 n2 n3 n4 v2 v3 u1 u2 u3 u4 u5 u6 g2 g3 g4 g6
  simp at a1 a2 a3 b1 b2 b3
  go_wp2_with (go_at_call 27; fail)
  refine (before_any _ _ _).mono ?_
  rintro e w' ⟨rfl, rfl⟩
  rw [E6.1]
  go_wp2_with (go_at_call 27; fail)
  refine (before_any _ _ _).mono ?_
  rintro e w' ⟨rfl, rfl⟩
  rw [E6.2]
  go_wp2
  go_ret
  exact ⟨rfl, U.out⟩
end Go.Proofs.YtdccmlpikjbcaaaGreat
