/- Plain: a whole slice appended to a slice that owns its cells, whatever their lengths. No program in sight. -/
import Derived.Test.YtopgphbmlcophaaPairs
import Derived.Deep.Upon
namespace Go.Proofs.Ytopgphbmlcophaa
open Go.RowKit

/-- The slice value v of n elements reads as the cells xs. -/
def Rd (w : World) (size : Nat) (v : Value) (n : Nat) (xs : List Value) : Prop :=
  ∃ ao c, v = .slice ao n c ∧ n ≤ c ∧ c ≤ maxLen ∧ xs.length = n * size ∧ (∀ u ∈ xs, u.oneCell' = true) ∧ (0 < n → ∃ a, ao = some a ∧ ∀ j u, xs[j]? = some u → w.cell? (a.add j) = some u)
theorem Rd.upd {w w' : World} {size n : Nat} {v : Value} {xs : List Value} (h : Rd w size v n xs) (hu : Upd [] w w') : Rd w' size v n xs := by
  obtain ⟨ao, c, hv, h1, h2, h3, h4, h5⟩ := h
  refine ⟨ao, c, hv, h1, h2, h3, h4, fun hn => ?_⟩
  obtain ⟨a, ha, h6⟩ := h5 hn
  exact ⟨a, ha, fun j u hj => (hu.cell (cell_lt (h6 j u hj)) (by simp)).trans (h6 j u hj)⟩
theorem Rd.src {P : Program} {w : World} {size n : Nat} {v : Value} {xs : List Value} {t e : TypeId} (ht : P.underlying t = some (.slice e)) (h : Rd w size v n xs) : Src P size t v n xs w := by
  obtain ⟨ao, c, rfl, h1, h2, h3, h4, h5⟩ := h
  by_cases hn : 0 < n
  · obtain ⟨a, rfl, h6⟩ := h5 hn
    exact Src.ofSlice w ht a n c xs h3 h6 h4
  · obtain rfl : n = 0 := by omega
    have hx : xs = [] := List.eq_nil_of_length_eq_zero (by simpa using h3)
    subst hx
    cases ao with
    | none => exact Src.ofNil w ht c
    | some a => exact Src.ofSlice w ht a 0 c [] (by simp) (by simp) (by simp)
theorem TgsAt.rd {w : World} {v : Value} {l : List Tg} (h : TgsAt w v l) : Rd w 2 v l.length (tgCells l) := by
  obtain ⟨ao, cap, rfl, h1, h2, h3⟩ := h
  refine ⟨ao, cap, rfl, h1, h2, tgCells_length l, ?_, fun hn => ?_⟩
  · intro u hu
    simp only [tgCells, List.mem_flatMap] at hu
    obtain ⟨t, _, hu⟩ := hu
    simp at hu
    rcases hu with rfl | rfl <;> rfl
  · obtain ⟨q, rfl, _⟩ := h3 0 l[0] (by simp [hn])
    refine ⟨q, rfl, fun j u hj => ?_⟩
    have hjl : j < l.length * 2 := by
      have := (List.getElem?_eq_some_iff.1 hj).1
      simpa using this
    obtain ⟨t, htt⟩ : ∃ t, l[j / 2]? = some t := ⟨_, List.getElem?_eq_getElem (by omega)⟩
    obtain ⟨q', e', k0, k1⟩ := h3 (j / 2) t htt
    injection e' with e'
    subst e'
    obtain ⟨c0, c1⟩ := tgCells_get l (j / 2) htt
    clear htt hjl
    have hj2 : j = j / 2 * 2 ∨ j = j / 2 * 2 + 1 := by omega
    rcases hj2 with h | h
    · rw [← h] at c0 k0
      rw [c0] at hj
      injection hj with hj
      subst hj
      exact k0
    · rw [← h] at c1
      rw [c1] at hj
      injection hj with hj
      subst hj
      rw [← k1]
      congr 1
      rw [show q.add j = q.add (j / 2 * 2 + 1) from congrArg _ h]
      unfold Addr.add
      split
      · omega
      · split
        · rename_i hz; congr 1; omega
        · simp [Nat.add_assoc]

section
variable {P : Program} (w : World)
theorem run_append_Rd (t ty e : TypeId) (i : TypeInfo) (z : Value) (size bytes : Nat) (ht : P.underlying t = some (.slice e)) (hi : P.info? e = some i) (hz : i.zero = some z)
    (hsize : i.size = size) (hby : i.bytes = bytes) (hzs : z.cells.size = size) (hsz : 0 < size)
    (v : Value) (n : Nat) (xs : List Value) (own : List Nat) (hown : Own w e size v n xs own)
    (x : Value) (m : Nat) (news : List Value) (hx : Rd w size x m news) (h63 : n + m ≤ maxLen) (hbytes : (n + m) * bytes ≤ 140737488355328) :
    ∃ ao cap w' own', (Builtin.append_ #[t, t] ty #[v, x]).run P w = .ok (.slice ao (n + m) cap) w' ∧ Own w' e size (.slice ao (n + m) cap) (n + m) (xs ++ news) own' ∧
      (∀ k, k ∈ own' → k ∈ own ∨ w.heap.size ≤ k) ∧ Upd own w w' := by
  by_cases hm : 0 < m
  · obtain ⟨ao, c, rfl, h1, h2, h3, h4, h5⟩ := hx
    obtain ⟨a, rfl, h6⟩ := h5 hm
    obtain ⟨g, off, cap, w', own', r1, r2, r3, r4⟩ := run_append_Own (P := P) w t ty e i z size bytes ht hi hz hsize hby hzs hsz v n xs own hown a m c news h3 h6 h4 hm h63 hbytes
    exact ⟨_, cap, w', own', r1, r2, r3, r4⟩
  · obtain rfl : m = 0 := by omega
    have hxs : news = [] := by
      obtain ⟨ao, c, rfl, h1, h2, h3, h4, h5⟩ := hx
      exact List.eq_nil_of_length_eq_zero (by simpa using h3)
    subst hxs
    obtain ⟨ao, cap, rfl, hle, hcm⟩ := hown.shape
    subst hsize
    refine ⟨ao, cap, w, own, run_append_nothing w t t ty e i ht hi ao n cap hle x (hx.src ht), ?_, fun k hk => .inl hk, Upd.refl _ _⟩
    simpa using hown

theorem wp_append_Rd {o : Oper} {a : Act} {K : Act → World → Prop} {Q : Exit → Act → World → Prop} (s x : Operand) (t : TypeId)
    (ho : o.op = .call { callee := .builtin .append, args := #[s, x], argTypes := #[t, t] })
    (e : TypeId) (i : TypeInfo) (z : Value) (size bytes : Nat) (ht : P.underlying t = some (.slice e)) (hi : P.info? e = some i) (hz : i.zero = some z)
    (hsize : i.size = size) (hby : i.bytes = bytes) (hzs : z.cells.size = size) (hsz : 0 < size)
    (v : Value) (n : Nat) (xs : List Value) (own : List Nat) (hs : a.eval s = v) (hown : Own w e size v n xs own)
    (u : Value) (m : Nat) (news : List Value) (hx : a.eval x = u) (hu : Rd w size u m news) (h63 : n + m ≤ maxLen) (hbytes : (n + m) * bytes ≤ 140737488355328)
    (h : ∀ ao cap w' own', Own w' e size (.slice ao (n + m) cap) (n + m) (xs ++ news) own' → (∀ k, k ∈ own' → k ∈ own ∨ w.heap.size ≤ k) → Upd own w w' → K (a.put o.dst (.slice ao (n + m) cap)) w') : o.wp P a w K Q := by
  obtain ⟨ao, cap, w', own', hrun, h2, h3, h4⟩ := run_append_Rd (P := P) w t o.type e i z size bytes ht hi hz hsize hby hzs hsz v n xs own hown u m news hu h63 hbytes
  unfold Oper.wp execOp
  simp only [ho, resolve, invoke, builtin, Sem.run_bind, Sem.run_pure, Result.andThen_ok, List.map_toArray, List.map_cons, List.map_nil, hs, hx, hrun]
  exact h _ _ _ _ h2 h3 h4
theorem wpList_append_Rd {ops : Array Oper} {rest : List Oper} {o : Oper} {a : Act} {Q : Exit → Act → World → Prop} (hgd : o.guard = none) (s x : Operand) (t : TypeId)
    (ho : o.op = .call { callee := .builtin .append, args := #[s, x], argTypes := #[t, t] })
    (e : TypeId) (i : TypeInfo) (z : Value) (size bytes : Nat) (ht : P.underlying t = some (.slice e)) (hi : P.info? e = some i) (hz : i.zero = some z)
    (hsize : i.size = size) (hby : i.bytes = bytes) (hzs : z.cells.size = size) (hsz : 0 < size)
    (v : Value) (n : Nat) (xs : List Value) (own : List Nat) (hs : a.eval s = v) (hown : Own w e size v n xs own)
    (u : Value) (m : Nat) (news : List Value) (hx : a.eval x = u) (hu : Rd w size u m news) (h63 : n + m ≤ maxLen) (hbytes : (n + m) * bytes ≤ 140737488355328)
    (h : ∀ ao cap w' own', Own w' e size (.slice ao (n + m) cap) (n + m) (xs ++ news) own' → (∀ k, k ∈ own' → k ∈ own ∨ w.heap.size ≤ k) → Upd own w w' → wpList P ops Q rest (a.put o.dst (.slice ao (n + m) cap)) w') : wpList P ops Q (o :: rest) a w :=
  wpList_plain hgd fun _ hK => wp_append_Rd w s x t ho e i z size bytes ht hi hz hsize hby hzs hsz v n xs own hs hown u m news hx hu h63 hbytes fun ao cap w' own' h2 h3 h4 => hK _ _ (h ao cap w' own' h2 h3 h4)
end
end Go.Proofs.Ytopgphbmlcophaa
