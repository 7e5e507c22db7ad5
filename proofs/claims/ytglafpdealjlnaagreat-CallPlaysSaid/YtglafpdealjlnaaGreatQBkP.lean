/- The book's lists, plain: lists that own blocks, each with a longer one that was grown from it. No program in sight. -/
import Derived.Test.YtglafpdealjlnaaGreatQSep
import Derived.Test.YtglafpdealjlnaaGreatQLib
namespace Go.Proofs.YtglafpdealjlnaaGreat
open Go.RowKit
set_option linter.unusedVariables false
set_option linter.unusedSectionVars false

/-! ### frames by types -/
/-- Only blocks of these types, made since lo, have turned. -/
structure UpdT (T : List TypeId) (lo : Nat) (w w' : World) : Prop where
  os : w'.os = w.os
  tape : w'.tape = w.tape
  output : w'.output = w.output
  size : w.heap.size ≤ w'.heap.size
  block : ∀ k, k < w.heap.size → (lo ≤ k → ∀ cs t, w.heap[k]? = some (.cells cs t (0, 0)) → t ∉ T) → w'.heap[k]? = w.heap[k]?
theorem UpdT.refl (T : List TypeId) (lo : Nat) (w : World) : UpdT T lo w w := ⟨rfl, rfl, rfl, Nat.le_refl _, fun _ _ _ => rfl⟩
theorem UpdT.trans {T : List TypeId} {lo : Nat} {a b c : World} (h : UpdT T lo a b) (k : UpdT T lo b c) : UpdT T lo a c :=
  ⟨k.os.trans h.os, k.tape.trans h.tape, k.output.trans h.output, Nat.le_trans h.size k.size, fun i hi hn => by
    have e := h.block i hi hn
    exact (k.block i (by have := h.size; omega) (fun hl cs t ht => hn hl cs t (e ▸ ht))).trans e⟩
theorem UpdT.mono {T T' : List TypeId} {lo : Nat} {a b : World} (h : UpdT T lo a b) (hT : ∀ t ∈ T, t ∈ T') : UpdT T' lo a b :=
  ⟨h.os, h.tape, h.output, h.size, fun i hi hn => h.block i hi fun hl cs t ht hm => hn hl cs t ht (hT t hm)⟩
theorem UpdT.of_upd {T : List TypeId} {lo : Nat} {F : List Nat} {a b : World} (h : Upd F a b) (hF : ∀ k ∈ F, k < a.heap.size → lo ≤ k ∧ ∃ cs t, Blk a k t cs ∧ t ∈ T) : UpdT T lo a b :=
  ⟨h.os, h.tape, h.output, h.size, fun i hi hn => h.block i hi fun hm => by
    obtain ⟨h1, cs, t, h2, h3⟩ := hF i hm hi
    exact hn h1 cs t h2 h3⟩
theorem UpdT.of_nil {T : List TypeId} {lo : Nat} {a b : World} (h : Upd [] a b) : UpdT T lo a b := .of_upd h (by simp)
theorem UpdT.below {T : List TypeId} {w0 a b : World} (h : UpdT T w0.heap.size a b) (h0 : Upd [] w0 a) : Upd [] w0 b :=
  ⟨h.os.trans h0.os, h.tape.trans h0.tape, h.output.trans h0.output, Nat.le_trans h0.size h.size, fun k hk _ =>
    (h.block k (by have := h0.size; omega) (fun hl => by omega)).trans (h0.block k hk (by simp))⟩
section
variable {w w' : World} {g : Nat} {t e : TypeId} {cs : Array Value} {size n : Nat} {v : Value} {xs : List Value} {own : List Nat} {T : List TypeId} {lo : Nat}
theorem Blk.updT (h : Blk w g t cs) (hu : UpdT T lo w w') (ht : t ∉ T) : Blk w' g t cs := by
  refine (hu.block g h.lt fun _ cs' t' h' => ?_).trans h
  unfold Blk at h
  rw [h] at h'
  injection h' with h'
  injection h' with _ h'
  exact h' ▸ ht
theorem Own.updT (h : Own w e size v n xs own) (hu : UpdT T lo w w') (ht : e ∉ T) : Own w' e size v n xs own := by
  refine ⟨h.1, ?_⟩
  rcases h.2 with h2 | ⟨g, off, cap, cur, h1, rfl, hb, r⟩
  · exact .inl h2
  · exact .inr ⟨g, off, cap, cur, h1, rfl, hb.updT hu ht, r⟩
/-- The blocks of a slice are of its type. -/
theorem Own.typ (h : Own w e size v n xs own) : ∀ k ∈ own, ∃ cs, Blk w k e cs := by
  intro k hk
  rcases h.2 with ⟨_, _, rfl⟩ | ⟨g, off, cap, cur, _, rfl, hb, _⟩
  · simp at hk
  · simp at hk; subst hk; exact ⟨_, hb⟩
theorem Own.updT_of (h : Own w e size v n xs own) (hu : Upd own w w') (hl : ∀ k ∈ own, lo ≤ k) : UpdT [e] lo w w' :=
  .of_upd hu fun k hk _ => by
    obtain ⟨cs, hb⟩ := h.typ k hk
    exact ⟨hl k hk, cs, e, hb, by simp⟩
/-- The first part of a slice. -/
theorem Own.first {g off cap m : Nat} {ys : List Value} (h : Own w e size (.slice (some ⟨g, off, none⟩) n cap) n xs own) (hm : m ≤ n) (hy : ys = xs.take (m * size)) :
    Own w e size (.slice (some ⟨g, off, none⟩) m cap) m ys own := by
  rcases h.2 with ⟨hv, _⟩ | ⟨g', off', cap', cur, hv, ho, hg, hnc, hc, hs, ht⟩
  · cases hv
  · injection hv with h1 h2 h3
    injection h1 with h1
    injection h1 with h4 h5
    subst h4 h5 h3
    have hmn : m * size ≤ n * size := Nat.mul_le_mul_right _ hm
    refine ⟨by rw [hy, List.length_take, h.1]; omega, .inr ⟨g, off, cap, cur, rfl, ho, hg, by omega, hc, hs, ?_⟩⟩
    rw [hy, ← ht, List.take_take, Nat.min_eq_left hmn]
end

/-! ### a list and what was grown from it -/
/-- A list a, and a list b that begins as it: in the same memory, or in memory of its own. -/
structure Duo (e : TypeId) (size : Nat) (va : Value) (na : Nat) (xa : List Value) (oa : List Nat) (vb : Value) (nb : Nat) (xb : List Value) (ob : List Nat) (w : World) : Prop where
  a : Own w e size va na xa oa
  b : Own w e size vb nb xb ob
  or : (∀ k ∈ oa, k ∉ ob) ∨ (oa = ob ∧ ∃ g off cap, va = .slice (some ⟨g, off, none⟩) na cap ∧ vb = .slice (some ⟨g, off, none⟩) nb cap ∧ na ≤ nb ∧ xa = xb.take (na * size))
section
variable {w w' : World} {e : TypeId} {size na nb : Nat} {va vb : Value} {xa xb : List Value} {oa ob : List Nat}
theorem Duo.upd {F : List Nat} (h : Duo e size va na xa oa vb nb xb ob w) (hu : Upd F w w') (hF : ∀ k ∈ oa ++ ob, k ∉ F) : Duo e size va na xa oa vb nb xb ob w' :=
  ⟨h.a.upd hu fun k hk => hF k (by simp [hk]), h.b.upd hu fun k hk => hF k (by simp [hk]), h.or⟩
theorem Duo.same (h : Own w e size va na xa oa) : Duo e size va na xa oa va na xa oa w := by
  refine ⟨h, h, ?_⟩
  rcases h.2 with ⟨_, _, rfl⟩ | ⟨g, off, cap, cur, h1, rfl, hb, r⟩
  · exact .inl (by simp)
  · exact .inr ⟨rfl, g, off, cap, h1, h1, Nat.le_refl _, by rw [List.take_of_length_le (by rw [h.1]; exact Nat.le_refl _)]⟩
/-- b grows in its place, or is made anew. -/
theorem Duo.grow {g off cap m : Nat} {news : List Value} {o' : List Nat} (h : Duo e size va na xa oa vb nb xb ob w) (hb : Own w' e size (.slice (some ⟨g, off, none⟩) (nb + m) cap) (nb + m) (xb ++ news) o')
    (hc : (o' = ob ∧ vb = .slice (some ⟨g, off, none⟩) nb cap ∧ Upd ob w w') ∨ ((∀ k ∈ o', w.heap.size ≤ k) ∧ Upd [] w w')) :
    Duo e size va na xa oa (.slice (some ⟨g, off, none⟩) (nb + m) cap) (nb + m) (xb ++ news) o' w' := by
  rcases hc with ⟨rfl, rfl, hu⟩ | ⟨ho, hu⟩
  · rcases h.or with hd | ⟨hoo, g2, off2, cap2, h1, h2, h3, h4⟩
    · exact ⟨h.a.upd hu hd, hb, .inl hd⟩
    · injection h2 with h5 _ h6
      injection h5 with h5
      injection h5 with h7 h8
      subst h6 h7 h8 hoo h1
      have hx : xa = (xb ++ news).take (na * size) := by
        rw [List.take_append_of_le_length (by rw [h.b.1]; exact Nat.mul_le_mul_right _ h3)]
        exact h4
      exact ⟨hb.first (by omega) hx, hb, .inr ⟨rfl, g, off, cap, rfl, rfl, by omega, hx⟩⟩
  · exact ⟨h.a.upd hu (by simp), hb, .inl fun k hk hk2 => by
      have := h.a.lt k hk
      have := ho k hk2
      omega⟩
end

section
variable {P : Program} (w : World)
/-- Append, told apart: in its place, or made anew. -/
theorem run_append_Duo (t ty e : TypeId) (i : TypeInfo) (z : Value) (size bytes : Nat) (ht : P.underlying t = some (.slice e)) (hi : P.info? e = some i) (hz : i.zero = some z)
    (hsize : i.size = size) (hby : i.bytes = bytes) (hzs : z.cells.size = size) (hsz : 0 < size)
    (v : Value) (n : Nat) (xs : List Value) (own : List Nat) (hown : Own w e size v n xs own)
    (a : Addr) (m c : Nat) (news : List Value) (hl : news.length = m * size) (hnews : ∀ j u, news[j]? = some u → w.cell? (a.add j) = some u) (h1 : ∀ u ∈ news, u.oneCell' = true)
    (hm : 0 < m) (h63 : n + m ≤ maxLen) (hbytes : (n + m) * bytes ≤ 140737488355328) :
    ∃ g off cap w' own', (Builtin.append_ #[t, t] ty #[v, .slice (some a) m c]).run P w = .ok (.slice (some ⟨g, off, none⟩) (n + m) cap) w' ∧ Own w' e size (.slice (some ⟨g, off, none⟩) (n + m) cap) (n + m) (xs ++ news) own' ∧
      ((own' = own ∧ v = .slice (some ⟨g, off, none⟩) n cap ∧ Upd own w w') ∨ ((∀ k ∈ own', w.heap.size ≤ k) ∧ Upd [] w w')) := by
  rcases hown.2 with ⟨rfl, rfl, rfl⟩ | ⟨g, off, cap, cur, rfl, rfl, hg, hnc, hcm, hcs, htake⟩
  · have hx : xs = [] := List.eq_nil_of_length_eq_zero (by simpa using hown.1)
    subst hx
    obtain ⟨v', w', hrun, r1, r2, _⟩ := run_append_own (P := P) w w.heap.size t ty e i z size bytes ht hi hz hsize hby hzs hsz (.slice none 0 0) 0 [] (World.ownsRow_nil w _ e size) a m c news hl hnews h1 h63 hbytes (Nat.le_refl _)
    obtain ⟨g, cap, own', rfl, rfl, hge, ho⟩ := Own.of_row r1 (Nat.le_refl _) (by omega)
    exact ⟨g, 0, cap, w', _, hrun, ho, .inr ⟨fun k hk => by simp at hk; subst hk; exact hge, Upd.of_grown r2⟩⟩
  · have hcell : ∀ j u, xs[j]? = some u → w.cell? ((⟨g, off, none⟩ : Addr).add j) = some u := by
      intro j u hu
      have hadd : (⟨g, off, none⟩ : Addr).add j = ⟨g, off + j, none⟩ := by unfold Addr.add; split <;> simp_all
      rw [hadd, hg.cell]
      rw [← htake, List.getElem?_take] at hu
      split at hu
      · simpa [List.getElem?_drop] using hu
      · cases hu
    by_cases hroom : n + m ≤ cap
    · subst hsize
      have hfit : off + n * i.size + news.length ≤ cur.size := by
        have : (n + m) * i.size ≤ cap * i.size := Nat.mul_le_mul_right _ hroom
        rw [Nat.add_mul] at this
        omega
      have hrun := run_append_room_cells (P := P) w t ty e i ht hi g off n cap a m c news hl hnews h1 hroom
        (fun j hj => by rw [hg.cell]; simp; omega) (fun j hj => hg.frozen _)
      obtain ⟨cs', hb', hl'⟩ := setCells_blk news (off + n * i.size) cur w hg hfit
      refine ⟨g, off, cap, _, [g], hrun, ⟨by rw [List.length_append, hown.1, hl, Nat.add_mul], .inr ⟨g, off, cap, cs', rfl, rfl, hb', hroom, hcm, ?_, ?_⟩⟩, .inl ⟨rfl, rfl, Upd.setCells (.inl (by simp)) _ _ (Upd.refl _ _)⟩⟩
      · have h2 : cs'.size = cur.size := by
          have := congrArg List.length hl'
          simp at this
          omega
        omega
      · rw [hl', List.append_assoc, List.drop_append_of_le_length (by simp; omega), ← hown.1]
        rw [show (n + m) * i.size = xs.length + news.length by rw [hown.1, hl, Nat.add_mul]]
        have h3 : (cur.toList.take (off + xs.length)).drop off = xs := by
          rw [List.drop_take, show off + xs.length - off = n * i.size by have := hown.1; omega]
          exact htake
        rw [h3, ← List.append_assoc, List.take_append_of_le_length (by simp), List.take_of_length_le (by simp)]
    · obtain ⟨v', w', hrun, r1, r2⟩ := run_append_arg_grows (P := P) w t ty e i z size bytes ht hi hz hsize hby hzs hsz ⟨g, off, none⟩ n cap xs hown.1 hcell a m c news hl hnews (by omega) h63 hbytes
      obtain ⟨g', cap', own', rfl, rfl, hge, ho⟩ := Own.of_row r1 (Nat.le_refl _) (by omega)
      exact ⟨g', 0, cap', w', _, hrun, ho, .inr ⟨fun k hk => by simp at hk; subst hk; exact hge, Upd.of_grown r2⟩⟩
/-- The step for a plain list of operations. -/
theorem wpList_append_Duo {ops : Array Oper} {rest : List Oper} {o : Oper} {a : Act} {Q : Exit → Act → World → Prop} (hgd : o.guard = none) (s x : Operand) (t : TypeId)
    (ho : o.op = .call { callee := .builtin .append, args := #[s, x], argTypes := #[t, t] })
    (e : TypeId) (i : TypeInfo) (z : Value) (size bytes : Nat) (ht : P.underlying t = some (.slice e)) (hi : P.info? e = some i) (hz : i.zero = some z)
    (hsize : i.size = size) (hby : i.bytes = bytes) (hzs : z.cells.size = size) (hsz : 0 < size)
    (v : Value) (n : Nat) (xs : List Value) (own : List Nat) (hs : a.eval s = v) (hown : Own w e size v n xs own)
    (ad : Addr) (m c : Nat) (news : List Value) (hx : a.eval x = .slice (some ad) m c) (hl : news.length = m * size) (hnews : ∀ j u, news[j]? = some u → w.cell? (ad.add j) = some u) (h1 : ∀ u ∈ news, u.oneCell' = true)
    (hm : 0 < m) (h63 : n + m ≤ maxLen) (hbytes : (n + m) * bytes ≤ 140737488355328)
    (h : ∀ g off cap w' own', Own w' e size (.slice (some ⟨g, off, none⟩) (n + m) cap) (n + m) (xs ++ news) own' → ((own' = own ∧ v = .slice (some ⟨g, off, none⟩) n cap ∧ Upd own w w') ∨ ((∀ k ∈ own', w.heap.size ≤ k) ∧ Upd [] w w')) →
      wpList P ops Q rest (a.put o.dst (.slice (some ⟨g, off, none⟩) (n + m) cap)) w') : wpList P ops Q (o :: rest) a w :=
  wpList_plain hgd fun _ hK => by
    obtain ⟨g, off, cap, w', own', hrun, h2, h3⟩ := run_append_Duo (P := P) w t o.type e i z size bytes ht hi hz hsize hby hzs hsz v n xs own hown ad m c news hl hnews h1 hm h63 hbytes
    unfold Oper.wp execOp
    simp only [ho, resolve, invoke, builtin, Sem.run_bind, Sem.run_pure, Result.andThen_ok, List.map_toArray, List.map_cons, List.map_nil, hs, hx, hrun]
    exact hK _ _ (h _ _ _ _ _ h2 h3)
end

/-! ### a kind of the book -/
/-- A list of the book: its slice, what it holds, its blocks. -/
structure Bit (α : Type) where
  v : Value
  l : List α
  own : List Nat
section
variable {α : Type} (c : α → List Value) (e : TypeId) (size : Nat)
def Held (w : World) (b : Bit α) : Prop := Own w e size b.v b.l.length (b.l.flatMap c) b.own
def duoT (d : Bit α × Bit α) : Thing :=
  ⟨d.1.own ++ d.2.own, Duo e size d.1.v d.1.l.length (d.1.l.flatMap c) d.1.own d.2.v d.2.l.length (d.2.l.flatMap c) d.2.own, fun _ _ _ h hu hF => h.upd hu hF,
    fun _ h k hk => by rcases List.mem_append.1 hk with hk | hk; exact h.a.lt k hk; exact h.b.lt k hk⟩
theorem duoT_same {w : World} {b : Bit α} (h : Held c e size w b) : (duoT c e size (b, b)).P w := Duo.same h
end
section
variable {α : Type} {c : α → List Value} {s : Nat}
theorem flat_length (hc : ∀ x, (c x).length = s) (l : List α) : (l.flatMap c).length = l.length * s := by
  induction l with
  | nil => simp
  | cons a l ih => rw [List.flatMap_cons, List.length_append, ih, hc, List.length_cons, Nat.add_mul]; omega
theorem flat_get (hc : ∀ x, (c x).length = s) (l : List α) (k j : Nat) (x : α) (h : l[k]? = some x) (hj : j < s) : (l.flatMap c)[k * s + j]? = (c x)[j]? := by
  induction l generalizing k with
  | nil => simp at h
  | cons a l ih =>
    rw [List.flatMap_cons]
    cases k with
    | zero =>
      simp at h; subst h
      rw [Nat.zero_mul, Nat.zero_add, List.getElem?_append_left (by rw [hc]; exact hj)]
    | succ k =>
      rw [List.getElem?_append_right (by rw [hc, Nat.add_mul]; omega), hc, ← ih k (by simpa using h)]
      congr 1
      rw [Nat.add_mul]; omega
theorem flat_set (hc : ∀ x, (c x).length = s) (l : List α) (k : Nat) (x : α) (h : k < l.length) : (l.set k x).flatMap c = (l.flatMap c).take (k * s) ++ c x ++ (l.flatMap c).drop (k * s + s) := by
  induction l generalizing k with
  | nil => simp at h
  | cons a l ih =>
    cases k with
    | zero =>
      rw [List.set_cons_zero, List.flatMap_cons, List.flatMap_cons, Nat.zero_mul, Nat.zero_add]
      have := hc a
      simp [← this]
    | succ k =>
      rw [List.set_cons_succ, List.flatMap_cons, List.flatMap_cons, ih k (by simpa using h)]
      have h1 : (k + 1) * s = (c a).length + k * s := by rw [hc, Nat.add_mul]; omega
      rw [h1, Nat.add_assoc, List.drop_length_add_append, List.take_length_add_append]
      simp [List.append_assoc]
theorem Rd.at {w : World} {n k cap : Nat} {ao : Option Addr} {l : List α} {x : α} (hc : ∀ x, (c x).length = s) (h : Rd w s (.slice ao n cap) n (l.flatMap c)) (hk : l[k]? = some x) (hs : 0 < s) :
    ∃ q, ao = some q ∧ (∀ u, (c x)[0]? = some u → w.cell? (q.add (k * s)) = some u) ∧ ∀ j u, 0 < j → (c x)[j]? = some u → w.cell? ⟨(q.add (k * s)).block, (q.add (k * s)).off + j, none⟩ = some u := by
  obtain ⟨ao, c', e, h1, h2, h3, h4, h5⟩ := h
  injection e with e1 e2 e3
  subst e1
  have hk' := (List.getElem?_eq_some_iff.1 hk).1
  rw [flat_length hc] at h3
  have hn : 0 < n := by
    have : l.length = n := Nat.eq_of_mul_eq_mul_right hs h3
    omega
  obtain ⟨a, rfl, h6⟩ := h5 hn
  refine ⟨a, rfl, fun u hu => ?_, fun j u hj hu => ?_⟩
  · have := flat_get hc l k 0 x hk hs
    rw [Nat.add_zero] at this
    exact h6 _ _ (this.trans hu)
  · have hjs : j < s := by
      have := (List.getElem?_eq_some_iff.1 hu).1
      rw [hc] at this; exact this
    rw [← add_off a (k * s) j hj]
    exact h6 _ _ ((flat_get hc l k j x hk hjs).trans hu)
/-- A slice of slices, or of other things of one cell each. -/
theorem Rd.one {w : World} {n k cap : Nat} {ao : Option Addr} {xs : List Value} {x : Value} (h : Rd w 1 (.slice ao n cap) n xs) (hk : xs[k]? = some x) : ∃ q, ao = some q ∧ w.cell? (q.add k) = some x := by
  obtain ⟨ao, c', e, h1, h2, h3, h4, h5⟩ := h
  injection e with e1 e2 e3
  subst e1
  have hk' := (List.getElem?_eq_some_iff.1 hk).1
  obtain ⟨a, rfl, h6⟩ := h5 (by omega)
  exact ⟨a, rfl, h6 _ _ hk⟩
end
theorem Own.rdB {w : World} {e : TypeId} {size n : Nat} {v : Value} {xs : List Value} {own : List Nat} (h : Own w e size v n xs own) (h1 : ∀ u ∈ xs, u.oneCell' = true) : Rd w size v n xs := by
  obtain ⟨hl, h⟩ := id h
  rcases h with ⟨rfl, rfl, rfl⟩ | ⟨g, off, cap, cur, rfl, rfl, hb, hnc, hcm, hsz, ht⟩
  · exact ⟨none, 0, rfl, Nat.le_refl _, by simp [maxLen], hl, h1, fun h => by omega⟩
  · refine ⟨_, cap, rfl, hnc, hcm, hl, h1, fun hn => ⟨_, rfl, fun j u hj => ?_⟩⟩
    rw [add_plain', hb.cell]
    rw [← ht, List.getElem?_take] at hj
    split at hj
    · simpa [List.getElem?_drop] using hj
    · cases hj
theorem Sep.snoc {w0 w w' : World} {l : List Thing} {t : Thing} (h : Sep w0 w l) (hu : Upd [] w w') (ht : t.P w') (hn : ∀ k ∈ t.own, w0.heap.size ≤ k) (hd : ∀ s ∈ l, ∀ k ∈ s.own, k ∉ t.own) : Sep w0 w' (l ++ [t]) := by
  refine ⟨?_, ?_, ?_, h.upd.trans hu⟩
  · intro s hs
    rcases List.mem_append.1 hs with hs | hs
    · exact s.keep _ _ _ (h.all s hs) hu (by simp)
    · simp at hs; subst hs; exact ht
  · rw [List.pairwise_append]
    refine ⟨h.dis, by simp, fun a ha b hb => ?_⟩
    simp at hb; subst hb
    exact hd a ha
  · intro s hs
    rcases List.mem_append.1 hs with hs | hs
    · exact h.new s hs
    · simp at hs; subst hs; exact hn
/-- The name of mark k in list i. -/
def nmL (i k : Nat) : List Int := [109, 65 + (i : Int) % 26, 65 + (i : Int) / 26 % 26, 48 + (k : Int) % 10, 48 + (k : Int) / 10 % 10, 48 + (k : Int) / 100 % 10]
def nm (i k : Nat) : ByteArray := strOfNums (nmL i k)
/-- n marks of list i, from the k-th on. -/
def marks {α : Type} (mk : Nat → Nat → α) (i k n : Nat) : List α := (List.range n).map fun j => mk i (k + j)
theorem marks_length {α : Type} (mk : Nat → Nat → α) (i k n : Nat) : (marks mk i k n).length = n := by simp [marks]
theorem marks_succ {α : Type} (mk : Nat → Nat → α) (i k n : Nat) : marks mk i k (n + 1) = marks mk i k n ++ [mk i (k + n)] := by simp [marks, List.range_succ]
theorem marks_get {α : Type} (mk : Nat → Nat → α) (i k n j : Nat) (h : j < n) : (marks mk i k n)[j]? = some (mk i (k + j)) := by simp [marks, h]
theorem marks_add {α : Type} (mk : Nat → Nat → α) (i n m : Nat) : marks mk i 0 n ++ marks mk i n m = marks mk i 0 (n + m) := by
  induction m with
  | zero => simp [marks]
  | succ m ih => rw [marks_succ, ← List.append_assoc, ih, ← Nat.add_assoc, marks_succ, Nat.zero_add]

/-! ### the stages of a kind -/
theorem UpdT.thenUpd {T : List TypeId} {lo : Nat} {F : List Nat} {a b c : World} (h : UpdT T lo a b) (k : Upd F b c) (hF : ∀ x ∈ F, a.heap.size ≤ x ∨ (lo ≤ x ∧ ∃ cs t, Blk b x t cs ∧ t ∈ T)) : UpdT T lo a c :=
  ⟨k.os.trans h.os, k.tape.trans h.tape, k.output.trans h.output, Nat.le_trans h.size k.size, fun i hi hn => by
    have e := h.block i hi hn
    refine (k.block i (by have := h.size; omega) fun hx => ?_).trans e
    rcases hF i hx with h1 | ⟨h1, cs, t, h2, h3⟩
    · omega
    · unfold Blk at h2
      rw [e] at h2
      exact hn h1 cs t h2 h3⟩
theorem UpdT.nil {T : List TypeId} {lo : Nat} {a b c : World} (h : UpdT T lo a b) (k : Upd [] b c) : UpdT T lo a c := h.thenUpd k (by simp)
theorem Own.updD {w w' : World} {e : TypeId} {size n : Nat} {v : Value} {xs : List Value} {own : List Nat} (h : Own w e size v n xs own) (hu : Upd [] w w') : Own w' e size v n xs own := h.upd hu (by simp)
section
variable {α : Type} {c : α → List Value} {e : TypeId} {size : Nat} {w0 w w' : World}
theorem Held.upd {F : List Nat} {b : Bit α} (h : Held c e size w b) (hu : Upd F w w') (hF : ∀ k ∈ b.own, k ∉ F) : Held c e size w' b := Own.upd h hu hF
theorem Held.updT {T : List TypeId} {lo : Nat} {b : Bit α} (h : Held c e size w b) (hu : UpdT T lo w w') (ht : e ∉ T) : Held c e size w' b := Own.updT h hu ht
theorem Held.slice {b : Bit α} (h : Held c e size w b) : ∃ ao cap, b.v = .slice ao b.l.length cap := by
  obtain ⟨ao, cap, h1, _⟩ := Own.shape h
  exact ⟨ao, cap, h1⟩
theorem Held.one {b : Bit α} (h : Held c e size w b) : b.v.oneCell' = true := by
  obtain ⟨ao, cap, h1⟩ := h.slice
  rw [h1]; rfl
theorem Sep.updTD {T : List TypeId} {L : List (Bit α × Bit α)} (h : Sep w0 w (L.map (duoT c e size))) (hu : UpdT T w0.heap.size w w') (ht : e ∉ T) : Sep w0 w' (L.map (duoT c e size)) := by
  refine ⟨?_, h.dis, h.new, hu.below h.upd⟩
  intro t h1
  have h2 := h.all t h1
  obtain ⟨d, _, rfl⟩ := List.mem_map.1 h1
  exact ⟨h2.a.updT hu ht, h2.b.updT hu ht, h2.or⟩
theorem Sep.heldA {L : List (Bit α × Bit α)} (h : Sep w0 w (L.map (duoT c e size))) {d : Bit α × Bit α} (hd : d ∈ L) : Held c e size w d.1 := Duo.a (h.all _ (List.mem_map_of_mem hd))
theorem Sep.heldB {L : List (Bit α × Bit α)} (h : Sep w0 w (L.map (duoT c e size))) {d : Bit α × Bit α} (hd : d ∈ L) : Held c e size w d.2 := Duo.b (h.all _ (List.mem_map_of_mem hd))
/-- The second list of a pair has grown. -/
theorem Sep.growDuo {L : List (Bit α × Bit α)} {i : Nat} {b u u' : Bit α} {news : List α} {g off cap m : Nat} (h : Sep w0 w (L.map (duoT c e size))) (hi : L[i]? = some (b, u))
    (hn : m = news.length) (hl : u'.l = u.l ++ news) (hv : u'.v = .slice (some ⟨g, off, none⟩) (u.l.length + m) cap)
    (hb : Own w' e size (.slice (some ⟨g, off, none⟩) (u.l.length + m) cap) (u.l.length + m) (u.l.flatMap c ++ news.flatMap c) u'.own)
    (hc : (u'.own = u.own ∧ u.v = .slice (some ⟨g, off, none⟩) u.l.length cap ∧ Upd u.own w w') ∨ ((∀ k ∈ u'.own, w.heap.size ≤ k) ∧ Upd [] w w')) :
    Sep w0 w' ((L.set i (b, u')).map (duoT c e size)) ∧ UpdT [e] w0.heap.size w w' := by
  have hmem := List.mem_of_getElem? hi
  have hd : Duo e size b.v b.l.length (b.l.flatMap c) b.own u.v u.l.length (u.l.flatMap c) u.own w := h.all _ (List.mem_map_of_mem hmem)
  have hi' : (L.map (duoT c e size))[i]? = some (duoT c e size (b, u)) := by rw [List.getElem?_map, hi]; rfl
  have hnew : ∀ k ∈ u.own, w0.heap.size ≤ k := fun k hk => h.new _ (List.mem_map_of_mem hmem) k (by simp [duoT, hk])
  have hg := hd.grow hb hc
  have hP : (duoT c e size (b, u')).P w' := by
    show Duo _ _ _ _ _ _ _ _ _ _ _
    rw [hv, hl, List.length_append, ← hn, List.flatMap_append]
    exact hg
  rw [List.map_set]
  rcases hc with ⟨ho, _, hu⟩ | ⟨ho, hu⟩
  · exact ⟨h.set i hi' hu (fun k hk => .inl (by simp [duoT, hk])) hP (fun k hk => .inl (by simpa [duoT, ho] using hk)), hd.b.updT_of hu hnew⟩
  · refine ⟨h.set i hi' hu (by simp) hP (fun k hk => ?_), .of_nil hu⟩
    rcases List.mem_append.1 hk with hk | hk
    · exact .inl (by simp [duoT, hk])
    · exact .inr (ho k hk)
/-- A list is written in its place. -/
theorem Sep.writeDuo {L : List (Bit α)} {i : Nat} {b u : Bit α} (h : Sep w0 w ((L.map fun b => (b, b)).map (duoT c e size))) (hi : L[i]? = some b) (hv : u.own = b.own) (hb : Held c e size w' u) (hu : Upd b.own w w') :
    Sep w0 w' (((L.set i u).map fun b => (b, b)).map (duoT c e size)) ∧ UpdT [e] w0.heap.size w w' := by
  have hmem := List.mem_of_getElem? hi
  have hmem2 : (b, b) ∈ L.map fun b => (b, b) := List.mem_map_of_mem hmem
  have hi' : ((L.map fun b => (b, b)).map (duoT c e size))[i]? = some (duoT c e size (b, b)) := by rw [List.getElem?_map, List.getElem?_map, hi]; rfl
  have hnew : ∀ k ∈ b.own, w0.heap.size ≤ k := fun k hk => h.new _ (List.mem_map_of_mem hmem2) k (by simp [duoT, hk])
  rw [List.map_set, List.map_set]
  exact ⟨h.set i hi' hu (fun k hk => .inl (by simp [duoT, hk])) (duoT_same c e size hb) (fun k hk => .inl (by simpa [duoT, hv] using hk)), Own.updT_of (h.heldA hmem2) hu hnew⟩
end

section
variable {α : Type} (c : α → List Value) (e oe : TypeId) (size κ : Nat)
/-- The book's lists of a kind, while they are put into it: each with its copy. X: blocks that none of them is in. -/
def KindAt (X : List Nat) (w0 w : World) (cs : Array Value) (R : List (Bit α)) : Prop :=
  ∃ ao cap oo aw cw ow, ∃ C : List (Bit α), cs[2 * κ]? = some (.slice ao R.length cap) ∧ cs[2 * κ + 1]? = some (.slice aw R.length cw) ∧
    Own w oe 1 (.slice ao R.length cap) R.length (R.map Bit.v) oo ∧ Own w oe 1 (.slice aw R.length cw) R.length (C.map Bit.v) ow ∧ (∀ k ∈ oo, k ∉ ow) ∧ (∀ k ∈ oo ++ ow, w0.heap.size ≤ k) ∧
    C.map Bit.l = R.map Bit.l ∧ (∀ b ∈ C, Held c e size w b) ∧ Sep w0 w ((R.map fun b => (b, b)).map (duoT c e size)) ∧ R.length ≤ 250 ∧ (∀ b ∈ R, b.l.length ≤ 100000) ∧
    (∀ k ∈ oo ++ ow, k ∉ X) ∧ (∀ b ∈ C, ∀ k ∈ b.own, k ∉ X) ∧ ∀ b ∈ R, ∀ k ∈ b.own, k ∉ X
/-- The same, behind the marking. -/
def KindPut (mk : Nat → Nat → α) (w0 w : World) (cs : Array Value) : Prop :=
  ∃ ao cap oo, ∃ R : List (Bit α), cs[2 * κ]? = some (.slice ao R.length cap) ∧ Own w oe 1 (.slice ao R.length cap) R.length (R.map Bit.v) oo ∧
    (∀ i b, R[i]? = some b → b.l = marks mk i 0 b.l.length) ∧ Sep w0 w ((R.map fun b => (b, b)).map (duoT c e size)) ∧ R.length ≤ 250 ∧ ∀ b ∈ R, b.l.length ≤ 100000
/-- Lists, all of them marked. -/
def Marked (mk : Nat → Nat → α) (w : World) (v : Value) : Prop :=
  ∃ ao cap oo, ∃ R : List (Bit α), v = .slice ao R.length cap ∧ Own w oe 1 (.slice ao R.length cap) R.length (R.map Bit.v) oo ∧
    (∀ i b, R[i]? = some b → b.l = marks mk i 0 b.l.length) ∧ (∀ b ∈ R, Held c e size w b) ∧ R.length ≤ 250 ∧ ∀ b ∈ R, b.l.length ≤ 200000
def GivesL (l : List α) (w : World) (en : Ending) (w' : World) : Prop :=
  ∃ ao cap own, en = .returned (.slice ao l.length cap) ∧ Own w' e size (.slice ao l.length cap) l.length (l.flatMap c) own ∧ (∀ k ∈ own, w.heap.size ≤ k) ∧ Upd [] w w'
/-- A copy is made and put behind the copies: stage by stage. -/
def addA (oe bt : TypeId) (w2 : World) (g : Nat) (cs1 : Array Value) (ow : List Nat) (n : Nat) (xs : List Value) (l : List α) (vs : List Value) (W : World) : Prop := match vs with
  | [] => Upd [] w2 W
  | [u] => Upd [] w2 W ∧ ∃ ao cap own, u = .slice ao l.length cap ∧ Own W e size (.slice ao l.length cap) l.length (l.flatMap c) own ∧ ∀ k ∈ own, w2.heap.size ≤ k
  | [u, x] => Upd [] w2 W ∧ ∃ ao cap own, u = .slice ao l.length cap ∧ Own W e size (.slice ao l.length cap) l.length (l.flatMap c) own ∧ (∀ k ∈ own, w2.heap.size ≤ k) ∧ ∃ gx, x = .slice (some ⟨gx, 0, none⟩) 1 1 ∧ Blk W gx oe #[.slice ao l.length cap]
  | [u, _, y] => Upd ow w2 W ∧ ∃ ao cap own, u = .slice ao l.length cap ∧ Own W e size (.slice ao l.length cap) l.length (l.flatMap c) own ∧ (∀ k ∈ own, w2.heap.size ≤ k) ∧
      ∃ ay cy oy, y = .slice ay (n + 1) cy ∧ Own W oe 1 (.slice ay (n + 1) cy) (n + 1) (xs ++ [.slice ao l.length cap]) oy ∧ ∀ k, k ∈ oy → k ∈ ow ∨ w2.heap.size ≤ k
  | [u, _, y, _] => Upd (g :: ow) w2 W ∧ ∃ ao cap own, Own W e size (.slice ao l.length cap) l.length (l.flatMap c) own ∧ (∀ k ∈ own, w2.heap.size ≤ k) ∧
      ∃ ay cy oy, Own W oe 1 (.slice ay (n + 1) cy) (n + 1) (xs ++ [.slice ao l.length cap]) oy ∧ (∀ k, k ∈ oy → k ∈ ow ∨ w2.heap.size ≤ k) ∧ Blk W g bt (cs1.setIfInBounds (2 * κ + 1) (.slice ay (n + 1) cy))
  | _ => False
/-- What a list put into the book leaves. -/
def Added (X : List Nat) (bt : TypeId) (w0 w : World) (g : Nat) (cs : Array Value) (R : List (Bit α)) (b : Bit α) (en : Ending) (w' : World) : Prop :=
  en = .returned (.tuple #[]) ∧ ∃ cs', Blk w' g bt cs' ∧ KindAt c e oe size κ X w0 w' cs' (if R.length < 250 then R ++ [b] else R) ∧ (∀ j, j ≠ 2 * κ → j ≠ 2 * κ + 1 → cs'[j]? = cs[j]?) ∧ UpdT [bt, oe] w0.heap.size w w'
def PutPost (mk : Nat → Nat → α) (w0 w : World) (cs : Array Value) (en : Ending) (w' : World) : Prop :=
  en = .returned (.tuple #[]) ∧ KindPut c e oe size κ mk w0 w' cs ∧ UpdT [e] w0.heap.size w w'
def GrowPost (mk : Nat → Nat → α) (w0 w : World) (cs : Array Value) (en : Ending) (w' : World) : Prop :=
  ∃ v u, en = .returned v ∧ Marked c e oe size mk w' v ∧ cs[2 * κ]? = some u ∧ Marked c e oe size mk w' u ∧ UpdT [e] w0.heap.size w w'
end
section
variable {α : Type} {c : α → List Value} {e oe : TypeId} {size κ : Nat} {w0 w w' : World} {cs : Array Value} {mk : Nat → Nat → α}
theorem addA_upd {oe bt : TypeId} {w2 : World} {g : Nat} {cs1 : Array Value} {ow : List Nat} {n : Nat} {xs : List Value} {l : List α} {vs : List Value} {W : World} (h : addA c e size κ oe bt w2 g cs1 ow n xs l vs W) (hv : vs.length ≤ 2) : Upd [] w2 W := by
  match vs, hv with
  | [], _ => exact h
  | [_], _ => exact h.1
  | [_, _], _ => exact h.1
theorem KindAt.updT {X : List Nat} {T : List TypeId} {R : List (Bit α)} (h : KindAt c e oe size κ X w0 w cs R) (hu : UpdT T w0.heap.size w w') (h1 : e ∉ T) (h2 : oe ∉ T) : KindAt c e oe size κ X w0 w' cs R := by
  obtain ⟨ao, cap, oo, aw, cw, ow, C, a1, a2, a3, a4, a5, a6, a7, a8, a9, r⟩ := h
  exact ⟨ao, cap, oo, aw, cw, ow, C, a1, a2, a3.updT hu h2, a4.updT hu h2, a5, a6, a7, fun b hb => (a8 b hb).updT hu h1, a9.updTD hu h1, r⟩
theorem KindAt.upd {X : List Nat} {R : List (Bit α)} (h : KindAt c e oe size κ X w0 w cs R) (hu : Upd [] w w') : KindAt c e oe size κ X w0 w' cs R := h.updT (T := []) (.of_nil hu) (by simp) (by simp)
/-- What is in none of its blocks may be written, if it was made since w0. -/
theorem KindAt.updX {X : List Nat} {R : List (Bit α)} (h : KindAt c e oe size κ X w0 w cs R) (hu : Upd X w w') (hX : ∀ k ∈ X, w0.heap.size ≤ k) : KindAt c e oe size κ X w0 w' cs R := by
  obtain ⟨ao, cap, oo, aw, cw, ow, C, a1, a2, a3, a4, a5, a6, a7, a8, a9, a10, a11, x1, x2, x3⟩ := h
  refine ⟨ao, cap, oo, aw, cw, ow, C, a1, a2, a3.upd hu (fun k hk => x1 k (by simp [hk])), a4.upd hu (fun k hk => x1 k (by simp [hk])), a5, a6, a7, fun b hb => (a8 b hb).upd hu (x2 b hb), ⟨?_, a9.dis, a9.new, a9.upd.trans' hu fun x hx => .inr (hX x hx)⟩, a10, a11, x1, x2, x3⟩
  intro t ht
  obtain ⟨d, hd, rfl⟩ := List.mem_map.1 ht
  obtain ⟨b, hb, rfl⟩ := List.mem_map.1 hd
  exact (duoT c e size (b, b)).keep w w' X (a9.all _ ht) hu fun k hk => x3 b hb k (by simpa [duoT] using hk)
theorem KindAt.lt {X : List Nat} {R : List (Bit α)} (h : KindAt c e oe size κ X w0 w cs R) : ∀ d ∈ R, ∀ k ∈ d.own, k < w.heap.size := by
  obtain ⟨ao, cap, oo, aw, cw, ow, C, a1, a2, a3, a4, a5, a6, a7, a8, a9, r⟩ := h
  exact fun d hd k hk => Own.lt (a9.heldA (List.mem_map_of_mem (f := fun b => (b, b)) hd)) k hk
/-- What is new may join what they keep off. -/
theorem KindAt.off {X X' : List Nat} {R : List (Bit α)} (h : KindAt c e oe size κ X w0 w cs R) (hX : ∀ k ∈ X', k ∈ X ∨ w.heap.size ≤ k) : KindAt c e oe size κ X' w0 w cs R := by
  have hlt := h.lt
  obtain ⟨ao, cap, oo, aw, cw, ow, C, a1, a2, a3, a4, a5, a6, a7, a8, a9, a10, a11, x1, x2, x3⟩ := h
  refine ⟨ao, cap, oo, aw, cw, ow, C, a1, a2, a3, a4, a5, a6, a7, a8, a9, a10, a11, fun k hk hk2 => ?_, fun b hb k hk hk2 => ?_, fun b hb k hk hk2 => ?_⟩
  · rcases hX k hk2 with h | h
    · exact x1 k hk h
    · rcases List.mem_append.1 hk with h3 | h3
      · have := a3.lt k h3; omega
      · have := a4.lt k h3; omega
  · rcases hX k hk2 with h | h
    · exact x2 b hb k hk h
    · have := Own.lt (a8 b hb) k hk; omega
  · rcases hX k hk2 with h | h
    · exact x3 b hb k hk h
    · have := hlt b hb k hk; omega
theorem KindAt.cells {X : List Nat} {cs' : Array Value} {R : List (Bit α)} (h : KindAt c e oe size κ X w0 w cs R) (h1 : cs'[2 * κ]? = cs[2 * κ]?) (h2 : cs'[2 * κ + 1]? = cs[2 * κ + 1]?) : KindAt c e oe size κ X w0 w cs' R := by
  obtain ⟨ao, cap, oo, aw, cw, ow, C, a1, a2, r⟩ := h
  exact ⟨ao, cap, oo, aw, cw, ow, C, h1.trans a1, h2.trans a2, r⟩
theorem KindAt.zero {X : List Nat} (w0 w : World) (h0 : Upd [] w0 w) (h1 : cs[2 * κ]? = some (.slice none 0 0)) (h2 : cs[2 * κ + 1]? = some (.slice none 0 0)) : KindAt c e oe size κ X w0 w cs [] :=
  ⟨none, 0, [], none, 0, [], [], h1, h2, Own.nil _ _ _, Own.nil _ _ _, by simp, by simp, rfl, by simp, ⟨by simp, .nil, by simp, h0⟩, by simp, by simp, by simp, by simp, by simp⟩
theorem KindAt.ups {X : List Nat} {R : List (Bit α)} (h : KindAt c e oe size κ X w0 w cs R) : Upd [] w0 w := by
  obtain ⟨ao, cap, oo, aw, cw, ow, C, a1, a2, a3, a4, a5, a6, a7, a8, a9, r⟩ := h
  exact a9.upd
/-- A list and its copy stand behind the others. -/
theorem KindAt.add {X : List Nat} {cs' : Array Value} {R C : List (Bit α)} {b u : Bit α} {ao aw : Option Addr} {cap cw : Nat} {oo ow : List Nat} {T : List TypeId} (hu : UpdT T w0.heap.size w w') (h1 : e ∉ T) (hn : R.length < 250)
    (a7 : C.map Bit.l = R.map Bit.l) (a8 : ∀ b ∈ C, Held c e size w b) (a9 : Sep w0 w ((R.map fun b => (b, b)).map (duoT c e size))) (a11 : ∀ b ∈ R, b.l.length ≤ 100000)
    (hb : Held c e size w' b) (hl : b.l.length ≤ 100000) (hlo : ∀ k ∈ b.own, w0.heap.size ≤ k) (hnew : ∀ d ∈ R, ∀ k ∈ d.own, k ∉ b.own) (hcu : Held c e size w' u) (hcl : u.l = b.l)
    (k1 : cs'[2 * κ]? = some (.slice ao (R.length + 1) cap)) (k2 : cs'[2 * κ + 1]? = some (.slice aw (R.length + 1) cw))
    (o1 : Own w' oe 1 (.slice ao (R.length + 1) cap) (R.length + 1) (R.map Bit.v ++ [b.v]) oo) (o2 : Own w' oe 1 (.slice aw (R.length + 1) cw) (R.length + 1) (C.map Bit.v ++ [u.v]) ow)
    (d1 : ∀ k ∈ oo, k ∉ ow) (d2 : ∀ k ∈ oo ++ ow, w0.heap.size ≤ k) (x1 : ∀ k ∈ oo ++ ow, k ∉ X) (x2 : ∀ b ∈ C, ∀ k ∈ b.own, k ∉ X) (x3 : ∀ b ∈ R, ∀ k ∈ b.own, k ∉ X) (x4 : ∀ k ∈ b.own, k ∉ X) (x5 : ∀ k ∈ u.own, k ∉ X) :
    KindAt c e oe size κ X w0 w' cs' (R ++ [b]) := by
  refine ⟨ao, cap, oo, aw, cw, ow, C ++ [u], ?_, ?_, ?_, ?_, d1, d2, ?_, ?_, ?_, ?_, ?_, x1, ?_, ?_⟩
  · rw [List.length_append]; exact k1
  · rw [List.length_append]; exact k2
  · rw [List.length_append, List.map_append]; exact o1
  · rw [List.length_append, List.map_append]; exact o2
  · rw [List.map_append, List.map_append, a7]; simp [hcl]
  · intro d hd
    rcases List.mem_append.1 hd with hd | hd
    · exact (a8 d hd).updT hu h1
    · simp at hd; subst hd; exact hcu
  · rw [List.map_append, List.map_append]
    refine (a9.updTD hu h1).snoc (Upd.refl _ _) (duoT_same c e size hb) (fun k hk => hlo k (by simpa [duoT] using hk)) ?_
    intro s hs k hk hk2
    obtain ⟨d, hd, rfl⟩ := List.mem_map.1 hs
    obtain ⟨d2, hd2, rfl⟩ := List.mem_map.1 hd
    exact hnew d2 hd2 k (by simpa [duoT] using hk) (by simpa [duoT] using hk2)
  · rw [List.length_append, List.length_singleton]; omega
  · intro d hd
    rcases List.mem_append.1 hd with hd | hd
    · exact a11 d hd
    · simp at hd; subst hd; exact hl
  · intro d hd
    rcases List.mem_append.1 hd with hd | hd
    · exact x2 d hd
    · simp at hd; subst hd; exact x5
  · intro d hd
    rcases List.mem_append.1 hd with hd | hd
    · exact x3 d hd
    · simp at hd; subst hd; exact x4
theorem KindPut.updT {T : List TypeId} (h : KindPut c e oe size κ mk w0 w cs) (hu : UpdT T w0.heap.size w w') (h1 : e ∉ T) (h2 : oe ∉ T) : KindPut c e oe size κ mk w0 w' cs := by
  obtain ⟨ao, cap, oo, R, a1, a2, a3, a4, r⟩ := h
  exact ⟨ao, cap, oo, R, a1, a2.updT hu h2, a3, a4.updTD hu h1, r⟩
theorem Marked.updT {T : List TypeId} {lo : Nat} {v : Value} (h : Marked c e oe size mk w v) (hu : UpdT T lo w w') (h1 : e ∉ T) (h2 : oe ∉ T) : Marked c e oe size mk w' v := by
  obtain ⟨ao, cap, oo, R, a1, a2, a3, a4, r⟩ := h
  exact ⟨ao, cap, oo, R, a1, a2.updT hu h2, a3, fun b hb => (a4 b hb).updT hu h1, r⟩
end
/-- A cell of a list is written: the list's k-th thing is another one. -/
theorem Own.setAt {α : Type} {c : α → List Value} {w : World} {e : TypeId} {size n k g off cap : Nat} {l : List α} {x : α} {own : List Nat} (hc : ∀ x, (c x).length = size)
    (h : Own w e size (.slice (some ⟨g, off, none⟩) n cap) n (l.flatMap c) own) (hk : k < l.length) (hn : l.length = n) :
    Own (w.setCells g (off + k * size) (c x)) e size (.slice (some ⟨g, off, none⟩) n cap) n ((l.set k x).flatMap c) own ∧ Upd own w (w.setCells g (off + k * size) (c x)) := by
  rcases h.2 with ⟨hv, _⟩ | ⟨g', off', cap', cur, hv, ho, hg, hnc, hcm, hs, ht⟩
  · cases hv
  · injection hv with h1 h2 h3
    injection h1 with h1
    injection h1 with h4 h5
    subst h4 h5 h3 ho
    have hks : (k + 1) * size ≤ n * size := Nat.mul_le_mul_right _ (by omega)
    have hns : n * size ≤ cap * size := Nat.mul_le_mul_right _ hnc
    rw [Nat.add_mul, Nat.one_mul] at hks
    obtain ⟨cs', hb', hl'⟩ := setCells_blk (c x) (off + k * size) cur w hg (by rw [hc]; omega)
    have hsz : cs'.size = cur.size := by
      have := congrArg List.length hl'
      simp [hc] at this
      omega
    refine ⟨⟨by rw [flat_length hc, List.length_set, hn], .inr ⟨g, off, cap, cs', rfl, rfl, hb', hnc, hcm, by omega, ?_⟩⟩, Upd.setCells (.inl (by simp)) _ _ (Upd.refl _ _)⟩
    rw [flat_set hc l k x hk, hl', hc, ← ht, List.append_assoc, List.drop_append_of_le_length (by simp; omega), List.drop_take, show off + k * size - off = k * size by omega]
    have hdl : (cur.toList.drop off).length = cur.size - off := by simp
    have hdd : List.drop (off + k * size + size) cur.toList = List.drop (k * size + size) (cur.toList.drop off) := by rw [List.drop_drop, Nat.add_assoc]
    have hcx := hc x
    rw [hdd]
    generalize cur.toList.drop off = D at *
    generalize k * size = p at *
    generalize n * size = q at *
    generalize c x = E at *
    have hp : (D.take p).length = p := by rw [List.length_take]; omega
    rw [List.take_append, hp, List.take_of_length_le (l := D.take p) (by omega), List.take_append, hcx, List.take_of_length_le (l := E) (by omega), List.take_take, Nat.min_eq_left (by omega), List.drop_take, List.append_assoc]
    congr 3
    omega
theorem set_same {α : Type} {l : List α} {k : Nat} {x : α} (h : l[k]? = some x) : l.set k x = l := by
  apply List.ext_getElem?
  intro i
  rw [List.getElem?_set]
  split
  · rename_i hi
    subst hi
    rw [h, if_pos (List.getElem?_eq_some_iff.1 h).1]
  · rfl
/-- The place of the k-th thing of a slice, to be written. -/
theorem Own.target {w : World} {e : TypeId} {size n k bc : Nat} {ba : Option Addr} {xs : List Value} {own : List Nat} (h : Own w e size (.slice ba n bc) n xs own) (hk : k < n) :
    ∃ gb off, ba = some ⟨gb, off, none⟩ ∧ own = [gb] ∧ (∀ i, i < size → ∃ u, w.cell? ⟨gb, off + k * size + i, none⟩ = some u) ∧ (∀ i, w.frozen? ⟨gb, i, none⟩ = false) ∧ n ≤ bc ∧ bc ≤ maxLen := by
  rcases h.2 with ⟨_, h0, _⟩ | ⟨g, off, cap, cur, hv, ho, hg, hnc, hcm, hs, ht⟩
  · omega
  · injection hv with h1 h2 h3
    subst h3 h1
    refine ⟨g, off, rfl, ho, fun i hi => ?_, fun i => hg.frozen i, hnc, hcm⟩
    have h1 : (k + 1) * size ≤ bc * size := Nat.mul_le_mul_right _ (by omega)
    rw [Nat.add_mul, Nat.one_mul] at h1
    rw [hg.cell]
    exact ⟨_, Array.getElem?_eq_getElem (by omega)⟩
theorem marks_set {α : Type} (mk : Nat → Nat → α) (i j : Nat) (l : List α) (h : j < l.length) : (marks mk i 0 j ++ l.drop j).set j (mk i j) = marks mk i 0 (j + 1) ++ l.drop (j + 1) := by
  rw [List.set_append_right _ _ (by rw [marks_length]; exact Nat.le_refl _), marks_length, Nat.sub_self, List.drop_eq_getElem_cons h, List.set_cons_zero, marks_succ, Nat.zero_add, List.append_assoc]
  rfl
/-- A slice with room behind it, in which a mark stands. -/
def LentAt {α : Type} (c : α → List Value) (e : TypeId) (size : Nat) (mk : List Value) (w : World) (v : Value) (l : List α) (own : List Nat) : Prop :=
  ∃ g off cap, v = .slice (some ⟨g, off, none⟩) l.length cap ∧ Own w e size (.slice (some ⟨g, off, none⟩) (l.length + 1) cap) (l.length + 1) (l.flatMap c ++ mk) own
section
variable {α : Type} {c : α → List Value} {e : TypeId} {size : Nat} {mk : List Value} {w w' : World} {v : Value} {l : List α} {ows : List Nat}
theorem LentAt.upd {F : List Nat} (h : LentAt c e size mk w v l ows) (hu : Upd F w w') (hF : ∀ k ∈ ows, k ∉ F) : LentAt c e size mk w' v l ows := by
  obtain ⟨g, off, cap, hv, ho⟩ := h
  exact ⟨g, off, cap, hv, ho.upd hu hF⟩
theorem LentAt.updD (h : LentAt c e size mk w v l ows) (hu : Upd [] w w') : LentAt c e size mk w' v l ows := h.upd hu (by simp)
theorem LentAt.updT {T : List TypeId} {lo : Nat} (h : LentAt c e size mk w v l ows) (hu : UpdT T lo w w') (he : e ∉ T) : LentAt c e size mk w' v l ows := by
  obtain ⟨g, off, cap, hv, ho⟩ := h
  exact ⟨g, off, cap, hv, ho.updT hu he⟩
theorem LentAt.own (hc : ∀ x, (c x).length = size) (h : LentAt c e size mk w v l ows) : Own w e size v l.length (l.flatMap c) ows := by
  obtain ⟨g, off, cap, hv, ho⟩ := h
  rw [hv]
  refine ho.first (by omega) ?_
  rw [List.take_append_of_le_length (by rw [flat_length hc]; exact Nat.le_refl _), List.take_of_length_le (by rw [flat_length hc]; exact Nat.le_refl _)]
end
def GivesLent {α : Type} (c : α → List Value) (e : TypeId) (size : Nat) (mk : List Value) (l : List α) (w : World) (en : Ending) (w' : World) : Prop :=
  ∃ v own, en = .returned v ∧ LentAt c e size mk w' v l own ∧ (∀ k ∈ own, w.heap.size ≤ k) ∧ Upd [] w w'
end Go.Proofs.YtglafpdealjlnaaGreat
