/- Plain: whole slices appended to slices that own their cells, whatever their lengths. No program in sight. -/
import Derived.Test.YtdccmlpikjbcaaaGreatLib
import Derived.Test.YtdccmlpikjbcaaaGreatOpen
import Derived.Deep.Upon
namespace Go.Proofs.YtdccmlpikjbcaaaGreat
open Go.RowKit
set_option linter.unusedSimpArgs false

theorem cell_lt' {w : World} {a : Addr} {v : Value} (h : w.cell? a = some v) : a.block < w.heap.size := by
  unfold World.cell? at h
  by_cases hl : a.block < w.heap.size
  · exact hl
  · rw [Array.getElem?_eq_none (by omega)] at h
    simp at h
theorem str_inj' {s t : ByteArray} : s.toList = t.toList ↔ s = t := by
  rw [ByteArray.toList_eq, ByteArray.toList_eq]
  constructor
  · intro h; exact ByteArray.ext (Array.toList_inj.1 h)
  · rintro rfl; rfl
theorem add_plain' (g off n : Nat) : (⟨g, off, none⟩ : Addr).add n = ⟨g, off + n, none⟩ := by unfold Addr.add; split <;> simp_all

/-- The slice value v of n elements reads as the cells xs. -/
def Rd (w : World) (size : Nat) (v : Value) (n : Nat) (xs : List Value) : Prop :=
  ∃ ao c, v = .slice ao n c ∧ n ≤ c ∧ c ≤ maxLen ∧ xs.length = n * size ∧ (∀ u ∈ xs, u.oneCell' = true) ∧ (0 < n → ∃ a, ao = some a ∧ ∀ j u, xs[j]? = some u → w.cell? (a.add j) = some u)
theorem Rd.upd {w w' : World} {size n : Nat} {v : Value} {xs : List Value} (h : Rd w size v n xs) (hu : Upd [] w w') : Rd w' size v n xs := by
  obtain ⟨ao, c, hv, h1, h2, h3, h4, h5⟩ := h
  refine ⟨ao, c, hv, h1, h2, h3, h4, fun hn => ?_⟩
  obtain ⟨a, ha, h6⟩ := h5 hn
  exact ⟨a, ha, fun j u hj => (hu.cell (cell_lt' (h6 j u hj)) (by simp)).trans (h6 j u hj)⟩
theorem Rd.src {P : Program} {w : World} {size n : Nat} {v : Value} {xs : List Value} {t e : TypeId} (ht : P.underlying t = some (.slice e)) (h : Rd w size v n xs) : Src P size t v n xs w := by
  obtain ⟨ao, c, rfl, h1, h2, h3, h4, h5⟩ := h
  by_cases hn : 0 < n
  · obtain ⟨a, rfl, h6⟩ := h5 hn
    exact Src.ofSlice w ht a n c xs h3 h6 h4
  · obtain rfl : n = 0 := by omega
    have hx : xs = [] := List.eq_nil_of_length_eq_zero (by simpa using h3)
    subst hx
    cases ao with
    | none => exact Src.ofNil w ht c
    | some a => exact Src.ofSlice w ht a 0 c [] (by simp) (by simp) (by simp)
theorem add_off (q : Addr) (i j : Nat) (hj : 0 < j) : q.add (i + j) = ⟨(q.add i).block, (q.add i).off + j, none⟩ := by
  unfold Addr.add
  split
  · omega
  · split
    · rename_i hz; congr 1; omega
    · simp [Nat.add_assoc]

section
variable {P : Program} (w : World)
theorem run_append_keep (t ty e : TypeId) (i : TypeInfo) (z : Value) (size bytes : Nat) (ht : P.underlying t = some (.slice e)) (hi : P.info? e = some i) (hz : i.zero = some z)
    (hsize : i.size = size) (hby : i.bytes = bytes) (hzs : z.cells.size = size) (hsz : 0 < size)
    (v : Value) (n : Nat) (xs : List Value) (own : List Nat) (hown : Own w e size v n xs own)
    (a : Addr) (m c : Nat) (news : List Value) (hl : news.length = m * size) (hnews : ∀ j u, news[j]? = some u → w.cell? (a.add j) = some u) (h1 : ∀ u ∈ news, u.oneCell' = true)
    (hm : 0 < m) (h63 : n + m ≤ maxLen) (hbytes : (n + m) * bytes ≤ 140737488355328) :
    ∃ g off cap w' own', (Builtin.append_ #[t, t] ty #[v, .slice (some a) m c]).run P w = .ok (.slice (some ⟨g, off, none⟩) (n + m) cap) w' ∧ Own w' e size (.slice (some ⟨g, off, none⟩) (n + m) cap) (n + m) (xs ++ news) own' ∧
      (∀ k, k ∈ own' → k ∈ own ∨ w.heap.size ≤ k) ∧ Upd own w w' ∧ Own w' e size v n xs own := by
  rcases hown.2 with ⟨rfl, rfl, rfl⟩ | ⟨g, off, cap, cur, rfl, rfl, hg, hnc, hcm, hcs, htake⟩
  · have hx : xs = [] := List.eq_nil_of_length_eq_zero (by simpa using hown.1)
    subst hx
    obtain ⟨v', w', hrun, r1, r2, _⟩ := run_append_own (P := P) w w.heap.size t ty e i z size bytes ht hi hz hsize hby hzs hsz (.slice none 0 0) 0 [] (World.ownsRow_nil w _ e size) a m c news hl hnews h1 h63 hbytes (Nat.le_refl _)
    obtain ⟨g, cap, own', rfl, rfl, hge, ho⟩ := Own.of_row r1 (Nat.le_refl _) (by omega)
    exact ⟨g, 0, cap, w', _, hrun, ho, fun k hk => by simp at hk; subst hk; exact .inr hge, Upd.of_grown r2, Own.nil _ _ _⟩
  · have hcell : ∀ j u, xs[j]? = some u → w.cell? ((⟨g, off, none⟩ : Addr).add j) = some u := by
      intro j u hu
      have hadd : (⟨g, off, none⟩ : Addr).add j = ⟨g, off + j, none⟩ := by unfold Addr.add; split <;> simp_all
      rw [hadd, hg.cell]
      rw [← htake, List.getElem?_take] at hu
      split at hu
      · simpa [List.getElem?_drop] using hu
      · cases hu
    by_cases hroom : n + m ≤ cap
    · subst hsize
      have hfit : off + n * i.size + news.length ≤ cur.size := by
        have : (n + m) * i.size ≤ cap * i.size := Nat.mul_le_mul_right _ hroom
        rw [Nat.add_mul] at this
        omega
      have hrun := run_append_room_cells (P := P) w t ty e i ht hi g off n cap a m c news hl hnews h1 hroom
        (fun j hj => by rw [hg.cell]; simp; omega) (fun j hj => hg.frozen _)
      obtain ⟨cs', hb', hl'⟩ := setCells_blk news (off + n * i.size) cur w hg hfit
      refine ⟨g, off, cap, _, [g], hrun, ⟨by rw [List.length_append, hown.1, hl, Nat.add_mul], .inr ⟨g, off, cap, cs', rfl, rfl, hb', hroom, hcm, ?_, ?_⟩⟩, fun k hk => .inl hk, Upd.setCells (.inl (by simp)) _ _ (Upd.refl _ _), hown.1, .inr ⟨g, off, cap, cs', rfl, rfl, hb', hnc, hcm, ?_, ?_⟩⟩
      · have h2 : cs'.size = cur.size := by
          have := congrArg List.length hl'
          simp at this
          omega
        omega
      · rw [hl', List.append_assoc, List.drop_append_of_le_length (by simp; omega), ← hown.1]
        rw [show (n + m) * i.size = xs.length + news.length by rw [hown.1, hl, Nat.add_mul]]
        have h3 : (cur.toList.take (off + xs.length)).drop off = xs := by
          rw [List.drop_take, show off + xs.length - off = n * i.size by have := hown.1; omega]
          exact htake
        rw [h3, ← List.append_assoc, List.take_append_of_le_length (by simp), List.take_of_length_le (by simp)]
      · have h2 : cs'.size = cur.size := by
          have := congrArg List.length hl'
          simp at this
          omega
        omega
      · rw [hl', List.append_assoc, List.drop_append_of_le_length (by simp; omega)]
        have h3 : (cur.toList.take (off + n * i.size)).drop off = xs := by
          rw [List.drop_take, show off + n * i.size - off = n * i.size by omega]
          exact htake
        rw [h3, ← hown.1, List.take_left]
    · obtain ⟨v', w', hrun, r1, r2⟩ := run_append_arg_grows (P := P) w t ty e i z size bytes ht hi hz hsize hby hzs hsz ⟨g, off, none⟩ n cap xs hown.1 hcell a m c news hl hnews (by omega) h63 hbytes
      obtain ⟨g', cap', own', rfl, rfl, hge, ho⟩ := Own.of_row r1 (Nat.le_refl _) (by omega)
      exact ⟨g', 0, cap', w', _, hrun, ho, fun k hk => by simp at hk; subst hk; exact .inr hge, (Upd.of_grown r2).mono (by simp), hown.upd (Upd.of_grown r2) (by simp)⟩

theorem run_append_Rd (t ty e : TypeId) (i : TypeInfo) (z : Value) (size bytes : Nat) (ht : P.underlying t = some (.slice e)) (hi : P.info? e = some i) (hz : i.zero = some z)
    (hsize : i.size = size) (hby : i.bytes = bytes) (hzs : z.cells.size = size) (hsz : 0 < size)
    (v : Value) (n : Nat) (xs : List Value) (own : List Nat) (hown : Own w e size v n xs own)
    (x : Value) (m : Nat) (news : List Value) (hx : Rd w size x m news) (h63 : n + m ≤ maxLen) (hbytes : (n + m) * bytes ≤ 140737488355328) :
    ∃ ao cap w' own', (Builtin.append_ #[t, t] ty #[v, x]).run P w = .ok (.slice ao (n + m) cap) w' ∧ Own w' e size (.slice ao (n + m) cap) (n + m) (xs ++ news) own' ∧
      (∀ k, k ∈ own' → k ∈ own ∨ w.heap.size ≤ k) ∧ Upd own w w' := by
  by_cases hm : 0 < m
  · obtain ⟨ao, c, rfl, h1, h2, h3, h4, h5⟩ := hx
    obtain ⟨a, rfl, h6⟩ := h5 hm
    obtain ⟨g, off, cap, w', own', r1, r2, r3, r4⟩ := run_append_Own (P := P) w t ty e i z size bytes ht hi hz hsize hby hzs hsz v n xs own hown a m c news h3 h6 h4 hm h63 hbytes
    exact ⟨_, cap, w', own', r1, r2, r3, r4⟩
  · obtain rfl : m = 0 := by omega
    have hxs : news = [] := by
      obtain ⟨ao, c, rfl, h1, h2, h3, h4, h5⟩ := hx
      exact List.eq_nil_of_length_eq_zero (by simpa using h3)
    subst hxs
    obtain ⟨ao, cap, rfl, hle, hcm⟩ := hown.shape
    subst hsize
    refine ⟨ao, cap, w, own, run_append_nothing w t t ty e i ht hi ao n cap hle x (hx.src ht), ?_, fun k hk => .inl hk, Upd.refl _ _⟩
    simpa using hown

theorem wp_append_Rd {o : Oper} {a : Act} {K : Act → World → Prop} {Q : Exit → Act → World → Prop} (s x : Operand) (t : TypeId)
    (ho : o.op = .call { callee := .builtin .append, args := #[s, x], argTypes := #[t, t] })
    (e : TypeId) (i : TypeInfo) (z : Value) (size bytes : Nat) (ht : P.underlying t = some (.slice e)) (hi : P.info? e = some i) (hz : i.zero = some z)
    (hsize : i.size = size) (hby : i.bytes = bytes) (hzs : z.cells.size = size) (hsz : 0 < size)
    (v : Value) (n : Nat) (xs : List Value) (own : List Nat) (hs : a.eval s = v) (hown : Own w e size v n xs own)
    (u : Value) (m : Nat) (news : List Value) (hx : a.eval x = u) (hu : Rd w size u m news) (h63 : n + m ≤ maxLen) (hbytes : (n + m) * bytes ≤ 140737488355328)
    (h : ∀ ao cap w' own', Own w' e size (.slice ao (n + m) cap) (n + m) (xs ++ news) own' → (∀ k, k ∈ own' → k ∈ own ∨ w.heap.size ≤ k) → Upd own w w' → K (a.put o.dst (.slice ao (n + m) cap)) w') : o.wp P a w K Q := by
  obtain ⟨ao, cap, w', own', hrun, h2, h3, h4⟩ := run_append_Rd (P := P) w t o.type e i z size bytes ht hi hz hsize hby hzs hsz v n xs own hown u m news hu h63 hbytes
  unfold Oper.wp execOp
  simp only [ho, resolve, invoke, builtin, Sem.run_bind, Sem.run_pure, Result.andThen_ok, List.map_toArray, List.map_cons, List.map_nil, hs, hx, hrun]
  exact h _ _ _ _ h2 h3 h4
theorem wpList_append_Rd {ops : Array Oper} {rest : List Oper} {o : Oper} {a : Act} {Q : Exit → Act → World → Prop} (hgd : o.guard = none) (s x : Operand) (t : TypeId)
    (ho : o.op = .call { callee := .builtin .append, args := #[s, x], argTypes := #[t, t] })
    (e : TypeId) (i : TypeInfo) (z : Value) (size bytes : Nat) (ht : P.underlying t = some (.slice e)) (hi : P.info? e = some i) (hz : i.zero = some z)
    (hsize : i.size = size) (hby : i.bytes = bytes) (hzs : z.cells.size = size) (hsz : 0 < size)
    (v : Value) (n : Nat) (xs : List Value) (own : List Nat) (hs : a.eval s = v) (hown : Own w e size v n xs own)
    (u : Value) (m : Nat) (news : List Value) (hx : a.eval x = u) (hu : Rd w size u m news) (h63 : n + m ≤ maxLen) (hbytes : (n + m) * bytes ≤ 140737488355328)
    (h : ∀ ao cap w' own', Own w' e size (.slice ao (n + m) cap) (n + m) (xs ++ news) own' → (∀ k, k ∈ own' → k ∈ own ∨ w.heap.size ≤ k) → Upd own w w' → wpList P ops Q rest (a.put o.dst (.slice ao (n + m) cap)) w') : wpList P ops Q (o :: rest) a w :=
  wpList_plain hgd fun _ hK => wp_append_Rd w s x t ho e i z size bytes ht hi hz hsize hby hzs hsz v n xs own hs hown u m news hx hu h63 hbytes fun ao cap w' own' h2 h3 h4 => hK _ _ (h ao cap w' own' h2 h3 h4)
theorem wpList_append_Rd_w {ops : Array Oper} {rest : List Oper} {o : Oper} {a : Act} {Q : Exit → Act → World → Prop} (hgd : Region.wanted o (yielded ops a.tmps) = true) (s x : Operand) (t : TypeId)
    (ho : o.op = .call { callee := .builtin .append, args := #[s, x], argTypes := #[t, t] })
    (e : TypeId) (i : TypeInfo) (z : Value) (size bytes : Nat) (ht : P.underlying t = some (.slice e)) (hi : P.info? e = some i) (hz : i.zero = some z)
    (hsize : i.size = size) (hby : i.bytes = bytes) (hzs : z.cells.size = size) (hsz : 0 < size)
    (v : Value) (n : Nat) (xs : List Value) (own : List Nat) (hs : a.eval s = v) (hown : Own w e size v n xs own)
    (u : Value) (m : Nat) (news : List Value) (hx : a.eval x = u) (hu : Rd w size u m news) (h63 : n + m ≤ maxLen) (hbytes : (n + m) * bytes ≤ 140737488355328)
    (h : ∀ ao cap w' own', Own w' e size (.slice ao (n + m) cap) (n + m) (xs ++ news) own' → (∀ k, k ∈ own' → k ∈ own ∨ w.heap.size ≤ k) → Upd own w w' → wpList P ops Q rest (a.put o.dst (.slice ao (n + m) cap)) w') : wpList P ops Q (o :: rest) a w := by
  show (if Region.wanted o (yielded ops a.tmps) = true then _ else _)
  rw [if_pos hgd]
  exact .inl (wp_append_Rd w s x t ho e i z size bytes ht hi hz hsize hby hzs hsz v n xs own hs hown u m news hx hu h63 hbytes fun ao cap w' own' h2 h3 h4 => h ao cap w' own' h2 h3 h4)
end
end Go.Proofs.YtdccmlpikjbcaaaGreat
