/- Plain lemmas on worlds: frames by owned blocks, blocks that are known whole, slices that own their cells at any offset. No program in sight. -/
import Derived.WalkKit
import Derived.WalkSpells
import Derived.WalkLawsBesides
import Derived.Lib.Hide
import Derived.Deep.QuietTactic
import Derived.BigQuiet
import Derived.Deep.RegionHeld3
import Derived.StillTailTactics
import Derived.Deep.AppendLies
import Derived.Deep.RegionLaw
import Derived.Deep.RegionWith
import Derived.Deep.LoopGhost
namespace Go.Proofs.YtdccmlpikjbcaaaGreat
open Go.RowKit

theorem str_empty (s : ByteArray) : s.toList.isEmpty = decide (s.size = 0) := by
  rw [ByteArray.toList_eq]
  have : s.size = s.data.toList.length := rfl
  rw [this]
  cases s.data.toList <;> simp

theorem str_empty_t {s : ByteArray} (h : s.size = 0) : s.toList.isEmpty = true := by rw [str_empty]; exact decide_eq_true h
theorem str_empty_f {s : ByteArray} (h : s.size ≠ 0) : s.toList.isEmpty = false := by rw [str_empty]; exact decide_eq_false h

/-- The goal's world under a name of its own, with what is to be known of it. -/
theorem gen_world {G : World → Prop} {W : World} (R : World → Prop) (h : R W) (k : ∀ V, R V → G V) : G W := k W h

/-! ### frames -/
structure Upd (F : List Nat) (w w' : World) : Prop where
  os : w'.os = w.os
  tape : w'.tape = w.tape
  output : w'.output = w.output
  size : w.heap.size ≤ w'.heap.size
  block : ∀ k, k < w.heap.size → k ∉ F → w'.heap[k]? = w.heap[k]?

theorem Upd.refl (F : List Nat) (w : World) : Upd F w w := ⟨rfl, rfl, rfl, Nat.le_refl _, fun _ _ _ => rfl⟩
theorem Upd.trans' {F G : List Nat} {a b c : World} (h : Upd F a b) (k : Upd G b c) (hg : ∀ x, x ∈ G → x ∈ F ∨ a.heap.size ≤ x) : Upd F a c :=
  ⟨k.os.trans h.os, k.tape.trans h.tape, k.output.trans h.output, Nat.le_trans h.size k.size,
    fun i hi hn => (k.block i (by have := h.size; omega) (fun hG => by rcases hg i hG with h1 | h1; exact hn h1; omega)).trans (h.block i hi hn)⟩
theorem Upd.trans {F : List Nat} {a b c : World} (h : Upd F a b) (k : Upd F b c) : Upd F a c := h.trans' k fun _ hx => .inl hx
theorem Upd.mono {F G : List Nat} {a b : World} (h : Upd F a b) (hg : ∀ x, x ∈ F → x ∈ G ∨ a.heap.size ≤ x) : Upd G a b :=
  ⟨h.os, h.tape, h.output, h.size, fun k hk hn => h.block k hk fun hF => by rcases hg k hF with h1 | h1; exact hn h1; omega⟩
theorem Upd.drew {F : List Nat} {a b : World} (h : Upd F a b) : Upd F a b.drew := ⟨h.os, h.tape, h.output, h.size, h.block⟩
theorem Upd.drewN {F : List Nat} {a b : World} (n : Nat) (h : Upd F a b) : Upd F a (b.drewN n) := ⟨h.os, h.tape, h.output, h.size, h.block⟩
theorem Upd.undrewN {F : List Nat} {a b : World} {n : Nat} (h : Upd F (a.drewN n) b) : Upd F a b := ⟨h.os, h.tape, h.output, h.size, h.block⟩
theorem Upd.undrew {F : List Nat} {a b : World} (h : Upd F a.drew b) : Upd F a b := ⟨h.os, h.tape, h.output, h.size, h.block⟩
theorem Upd.alloc {F : List Nat} {a b : World} (o : Obj) (h : Upd F a b) : Upd F a (b.alloc o) :=
  ⟨h.os, h.tape, h.output, by have := h.size; simp; omega, fun k hk hn => (Below.heap_alloc b o k (by have := h.size; omega)).trans (h.block k hk hn)⟩
theorem Upd.setCell {F : List Nat} {a b : World} {p : Addr} (u : Value) (h : Upd F a b) (hp : p.block ∈ F ∨ a.heap.size ≤ p.block) : Upd F a (b.setCell p u) :=
  ⟨h.os, h.tape, h.output, by have := h.size; simp [World.setCell]; exact this, fun k hk hn => (Below.heap_setCell b p u k (fun e => by subst e; rcases hp with h1 | h1; exact hn h1; omega)).trans (h.block k hk hn)⟩
theorem Upd.below {w w' : World} (h : Upd [] w w') : Below w.heap.size w w' := ⟨h.os, h.tape, h.output, h.size, fun k hk => h.block k hk (by simp)⟩
theorem Upd.of_below {F : List Nat} {w w' : World} (h : Below w.heap.size w w') : Upd F w w' := ⟨h.os, h.tape, h.output, h.size, fun k hk _ => h.block k hk⟩
theorem Upd.cell {F : List Nat} {w w' : World} (h : Upd F w w') {p : Addr} (hp : p.block < w.heap.size) (hn : p.block ∉ F) : w'.cell? p = w.cell? p := World.cell?_of_block (w := w) (h.block p.block hp hn)
theorem Upd.frozen {F : List Nat} {w w' : World} (h : Upd F w w') {p : Addr} (hp : p.block < w.heap.size) (hn : p.block ∉ F) : w'.frozen? p = w.frozen? p := World.frozen?_of_block (w := w) (h.block p.block hp hn)
theorem Upd.setCells {F : List Nat} {a : World} {g : Nat} (hp : g ∈ F ∨ a.heap.size ≤ g) : ∀ (vs : List Value) (o : Nat) {b : World}, Upd F a b → Upd F a (b.setCells g o vs)
  | [], _, _, h => h
  | v :: r, o, _, h => by rw [World.setCells]; exact Upd.setCells hp r (o + 1) (h.setCell v hp)

/-! ### a block that is known whole -/
def Blk (w : World) (g : Nat) (t : TypeId) (cs : Array Value) : Prop := w.heap[g]? = some (.cells cs t (0, 0))
section
variable {w w' : World} {g : Nat} {t : TypeId} {cs : Array Value}
theorem Blk.lt (h : Blk w g t cs) : g < w.heap.size := by
  rcases Nat.lt_or_ge g w.heap.size with hlt | hge
  · exact hlt
  · unfold Blk at h; rw [Array.getElem?_eq_none hge] at h; cases h
theorem Blk.cell (h : Blk w g t cs) (i : Nat) : w.cell? ⟨g, i, none⟩ = cs[i]? := cell_of_row w g i cs t (0, 0) h
theorem Blk.frozen (h : Blk w g t cs) (i : Nat) : w.frozen? ⟨g, i, none⟩ = false := by
  unfold Blk at h
  simp [World.frozen?, h]
theorem Blk.new (w : World) (t : TypeId) (cs : Array Value) : Blk (w.alloc (.cells cs t)) w.heap.size t cs := heap_alloc_new w _
theorem Blk.drew (h : Blk w g t cs) : Blk w.drew g t cs := h
theorem Blk.drewN (n : Nat) (h : Blk w g t cs) : Blk (w.drewN n) g t cs := h
theorem Blk.alloc (o : Obj) (h : Blk w g t cs) : Blk (w.alloc o) g t cs := (Below.heap_alloc w o g h.lt).trans h
theorem Blk.set_ (i : Nat) (u : Value) (h : Blk w g t cs) : Blk (w.setCell ⟨g, i, none⟩ u) g t (cs.setIfInBounds i u) := by
  unfold Blk at h ⊢
  simp [World.setCell, Array.getElem?_modify, h]
theorem Blk.far {p : Addr} (u : Value) (hp : g ≠ p.block) (h : Blk w g t cs) : Blk (w.setCell p u) g t cs := (Below.heap_setCell w p u g hp).trans h
theorem Blk.upd {F : List Nat} (h : Blk w g t cs) (hb : Upd F w w') (hg : g ∉ F) : Blk w' g t cs := (hb.block g h.lt hg).trans h
theorem Blk.ne_ {g' : Nat} {t' : TypeId} {cs' : Array Value} (h : Blk w g t cs) (h' : Blk w g' t' cs') (hne : t ≠ t') : g ≠ g' := by
  rintro rfl
  unfold Blk at h h'
  rw [h] at h'
  injection h' with h'
  injection h' with _ ht
  exact hne ht
theorem Blk.of_eq {cs' : Array Value} (h : Blk w g t cs) (e : cs = cs') : Blk w g t cs' := e ▸ h
theorem Blk.inj {cs' : Array Value} {t' : TypeId} (h : Blk w g t cs) (h' : Blk w g t' cs') : cs = cs' := by
  unfold Blk at h h'
  rw [h] at h'
  injection h' with h'
  injection h'
end

/-! ### a slice that owns its cells, at whatever offset -/
/-- The slice value v of n elements (size cells each, element type e) reads as the cells xs; own: its block, if it has one. -/
def Own (w : World) (e : TypeId) (size : Nat) (v : Value) (n : Nat) (xs : List Value) (own : List Nat) : Prop :=
  xs.length = n * size ∧
  ((v = .slice none 0 0 ∧ n = 0 ∧ own = []) ∨
   ∃ g off cap cur, v = .slice (some ⟨g, off, none⟩) n cap ∧ own = [g] ∧ Blk w g e cur ∧ n ≤ cap ∧ cap ≤ maxLen ∧ off + cap * size ≤ cur.size ∧ (cur.toList.drop off).take (n * size) = xs)
section
variable {w w' : World} {e : TypeId} {size n : Nat} {v : Value} {xs : List Value} {own : List Nat}
theorem Own.nil (w : World) (e : TypeId) (size : Nat) : Own w e size (.slice none 0 0) 0 [] [] := ⟨by simp, .inl ⟨rfl, rfl, rfl⟩⟩
theorem Own.one_new (w : World) (e : TypeId) (u : Value) : Own (w.alloc (.cells #[u] e)) e 1 (.slice (some ⟨w.heap.size, 0, none⟩) 1 1) 1 [u] [w.heap.size] :=
  ⟨rfl, .inr ⟨w.heap.size, 0, 1, #[u], rfl, rfl, Blk.new _ _ _, Nat.le_refl _, by simp [maxLen], by simp, rfl⟩⟩
theorem Own.lt (h : Own w e size v n xs own) : ∀ k, k ∈ own → k < w.heap.size := by
  intro k hk
  rcases h.2 with ⟨_, _, rfl⟩ | ⟨g, off, cap, cur, _, rfl, hb, _⟩
  · simp at hk
  · simp at hk; subst hk; exact hb.lt
theorem Own.upd {F : List Nat} (h : Own w e size v n xs own) (hu : Upd F w w') (hF : ∀ k, k ∈ own → k ∉ F) : Own w' e size v n xs own := by
  refine ⟨h.1, ?_⟩
  rcases h.2 with h2 | ⟨g, off, cap, cur, h1, rfl, hb, r⟩
  · exact .inl h2
  · exact .inr ⟨g, off, cap, cur, h1, rfl, hb.upd hu (hF g (by simp)), r⟩
theorem Own.drew (h : Own w e size v n xs own) : Own w.drew e size v n xs own := h
theorem Own.drewN (k : Nat) (h : Own w e size v n xs own) : Own (w.drewN k) e size v n xs own := h
theorem Own.alloc (o : Obj) (h : Own w e size v n xs own) : Own (w.alloc o) e size v n xs own := h.upd ((Upd.refl [] w).alloc o) (by simp)
theorem Own.setCell {p : Addr} (u : Value) (h : Own w e size v n xs own) (hp : p.block ∉ own) : Own (w.setCell p u) e size v n xs own :=
  h.upd (F := [p.block]) ((Upd.refl _ w).setCell u (.inl (by simp))) (fun k hk => by simp; rintro rfl; exact hp hk)
theorem Own.ne_blk {g' : Nat} {t' : TypeId} {cs' : Array Value} (h : Own w e size v n xs own) (hb : Blk w g' t' cs') (hne : e ≠ t') : g' ∉ own := by
  rcases h.2 with ⟨_, _, rfl⟩ | ⟨g, off, cap, cur, _, rfl, hg, _⟩
  · simp
  · simp only [List.mem_singleton]
    exact fun e => (hg.ne_ hb hne) e.symm
theorem Own.ne_own {e' : TypeId} {size' n' : Nat} {v' : Value} {xs' : List Value} {own' : List Nat} (h : Own w e size v n xs own) (h' : Own w e' size' v' n' xs' own') (hne : e ≠ e') : ∀ k, k ∈ own → k ∉ own' := by
  intro k hk
  rcases h.2 with ⟨_, _, rfl⟩ | ⟨g, off, cap, cur, _, rfl, hg, _⟩
  · simp at hk
  · simp at hk; subst hk
    exact h'.ne_blk hg (fun e => hne e.symm)
/-- What a slice that is not empty looks like. -/
theorem Own.form (h : Own w e size v n xs own) (hn : 0 < n) : ∃ g off cap, v = .slice (some ⟨g, off, none⟩) n cap ∧ own = [g] ∧ n ≤ cap ∧ cap ≤ maxLen ∧
    (∀ j u, xs[j]? = some u → w.cell? ⟨g, off + j, none⟩ = some u) := by
  rcases h.2 with ⟨_, h0, _⟩ | ⟨g, off, cap, cur, hv, ho, hg, hnc, hc, hs, ht⟩
  · omega
  · refine ⟨g, off, cap, hv, ho, hnc, hc, fun j u hu => ?_⟩
    rw [hg.cell]
    rw [← ht, List.getElem?_take] at hu
    split at hu
    · simpa [List.getElem?_drop] using hu
    · cases hu
theorem Own.shape (h : Own w e size v n xs own) : ∃ ao cap, v = .slice ao n cap ∧ n ≤ cap ∧ cap ≤ maxLen := by
  rcases h.2 with ⟨hv, h0, _⟩ | ⟨g, off, cap, cur, hv, ho, hg, hnc, hc, hs, ht⟩
  · exact ⟨none, 0, by rw [hv, h0], by omega, by simp [maxLen]⟩
  · exact ⟨_, cap, hv, hnc, hc⟩
/-- The slice without its first k elements, as the model cuts it: the address stays where the cut stands at the capacity's end. -/
theorem Own.cut {g off cap k : Nat} (h : Own w e size (.slice (some ⟨g, off, none⟩) n cap) n xs own) (hk : k ≤ n) :
    Own w e size (.slice (if cap = k then some ⟨g, off, none⟩ else some ⟨g, off + k * size, none⟩) (n - k) (cap - k)) (n - k) (xs.drop (k * size)) own := by
  rcases h.2 with ⟨hv, _⟩ | ⟨g', off', cap', cur, hv, ho, hg, hnc, hc, hs, ht⟩
  · cases hv
  · injection hv with h1 h2 h3
    injection h1 with h1
    injection h1 with h4 h5
    subst h4 h5 h3
    refine ⟨by rw [List.length_drop, h.1, Nat.sub_mul], .inr ?_⟩
    by_cases hck : cap = k
    · subst hck
      rw [if_pos rfl]
      refine ⟨g, off, cap - cap, cur, rfl, ho, hg, by omega, by omega, by simp; omega, ?_⟩
      obtain rfl : n = cap := by omega
      rw [← h.1]; simp
    · rw [if_neg hck]
      refine ⟨g, off + k * size, cap - k, cur, rfl, ho, hg, by omega, by omega, ?_, ?_⟩
      · have : k * size ≤ cap * size := Nat.mul_le_mul_right _ (by omega)
        rw [Nat.sub_mul]; omega
      · rw [← ht, List.drop_take, List.drop_drop, Nat.sub_mul]
end

section
variable {P : Program} (w : World)
theorem setCells_blk {g : Nat} {t : TypeId} : ∀ (vs : List Value) (o : Nat) (cs : Array Value) (w : World), Blk w g t cs → o + vs.length ≤ cs.size →
    ∃ cs' : Array Value, Blk (w.setCells g o vs) g t cs' ∧ cs'.toList = cs.toList.take o ++ vs ++ cs.toList.drop (o + vs.length)
  | [], o, cs, w, h, hl => ⟨cs, h, by simp⟩
  | v :: r, o, cs, w, h, hl => by
    simp only [List.length_cons] at hl
    obtain ⟨cs', h1, h2⟩ := setCells_blk r (o + 1) (cs.setIfInBounds o v) _ (h.set_ o v) (by simp; omega)
    refine ⟨cs', h1, ?_⟩
    rw [h2]
    have hlen : o < cs.toList.length := by simp; omega
    simp only [Array.toList_setIfInBounds, List.length_cons]
    rw [List.take_set, List.drop_set, if_pos (by omega), List.take_succ_eq_append_getElem hlen, List.set_append]
    simp only [List.length_take, Array.length_toList]
    rw [if_neg (by omega)]
    have : o - min o cs.size = 0 := by omega
    rw [this]
    simp [Nat.add_assoc, Nat.add_comm 1 r.length]

theorem Own.of_row {base : Nat} {w w1 : World} {e : TypeId} {size n : Nat} {v : Value} {xs : List Value} (h : w1.ownsRow base e size v n xs) (hb : w.heap.size ≤ base) (hn : 0 < n) :
    ∃ g cap own, v = .slice (some ⟨g, 0, none⟩) n cap ∧ own = [g] ∧ w.heap.size ≤ g ∧ Own w1 e size v n xs own := by
  obtain ⟨h1, h2⟩ := h
  rcases h2 with ⟨rfl, rfl⟩ | ⟨g, cap, cur, rfl, hg, hh, hnc, hcm, hcs, htake⟩
  · omega
  · exact ⟨g, cap, [g], rfl, rfl, by omega, h1, .inr ⟨g, 0, cap, cur, rfl, rfl, hh, hnc, hcm, by omega, by simpa using htake⟩⟩

theorem Upd.of_grown {w w' : World} (hg : w.grownBy w' none) : Upd [] w w' := ⟨hg.os, hg.tape, hg.output, hg.size, fun k hk _ => hg.block k hk (by simp)⟩

theorem run_append_Own (t ty e : TypeId) (i : TypeInfo) (z : Value) (size bytes : Nat) (ht : P.underlying t = some (.slice e)) (hi : P.info? e = some i) (hz : i.zero = some z)
    (hsize : i.size = size) (hby : i.bytes = bytes) (hzs : z.cells.size = size) (hsz : 0 < size)
    (v : Value) (n : Nat) (xs : List Value) (own : List Nat) (hown : Own w e size v n xs own)
    (a : Addr) (m c : Nat) (news : List Value) (hl : news.length = m * size) (hnews : ∀ j u, news[j]? = some u → w.cell? (a.add j) = some u) (h1 : ∀ u ∈ news, u.oneCell' = true)
    (hm : 0 < m) (h63 : n + m ≤ maxLen) (hbytes : (n + m) * bytes ≤ 140737488355328) :
    ∃ g off cap w' own', (Builtin.append_ #[t, t] ty #[v, .slice (some a) m c]).run P w = .ok (.slice (some ⟨g, off, none⟩) (n + m) cap) w' ∧ Own w' e size (.slice (some ⟨g, off, none⟩) (n + m) cap) (n + m) (xs ++ news) own' ∧
      (∀ k, k ∈ own' → k ∈ own ∨ w.heap.size ≤ k) ∧ Upd own w w' := by
  rcases hown.2 with ⟨rfl, rfl, rfl⟩ | ⟨g, off, cap, cur, rfl, rfl, hg, hnc, hcm, hcs, htake⟩
  · have hx : xs = [] := List.eq_nil_of_length_eq_zero (by simpa using hown.1)
    subst hx
    obtain ⟨v', w', hrun, r1, r2, _⟩ := run_append_own (P := P) w w.heap.size t ty e i z size bytes ht hi hz hsize hby hzs hsz (.slice none 0 0) 0 [] (World.ownsRow_nil w _ e size) a m c news hl hnews h1 h63 hbytes (Nat.le_refl _)
    obtain ⟨g, cap, own', rfl, rfl, hge, ho⟩ := Own.of_row r1 (Nat.le_refl _) (by omega)
    exact ⟨g, 0, cap, w', _, hrun, ho, fun k hk => by simp at hk; subst hk; exact .inr hge, Upd.of_grown r2⟩
  · have hcell : ∀ j u, xs[j]? = some u → w.cell? ((⟨g, off, none⟩ : Addr).add j) = some u := by
      intro j u hu
      have hadd : (⟨g, off, none⟩ : Addr).add j = ⟨g, off + j, none⟩ := by unfold Addr.add; split <;> simp_all
      rw [hadd, hg.cell]
      rw [← htake, List.getElem?_take] at hu
      split at hu
      · simpa [List.getElem?_drop] using hu
      · cases hu
    by_cases hroom : n + m ≤ cap
    · subst hsize
      have hfit : off + n * i.size + news.length ≤ cur.size := by
        have : (n + m) * i.size ≤ cap * i.size := Nat.mul_le_mul_right _ hroom
        rw [Nat.add_mul] at this
        omega
      have hrun := run_append_room_cells (P := P) w t ty e i ht hi g off n cap a m c news hl hnews h1 hroom
        (fun j hj => by rw [hg.cell]; simp; omega) (fun j hj => hg.frozen _)
      obtain ⟨cs', hb', hl'⟩ := setCells_blk news (off + n * i.size) cur w hg hfit
      refine ⟨g, off, cap, _, [g], hrun, ⟨by rw [List.length_append, hown.1, hl, Nat.add_mul], .inr ⟨g, off, cap, cs', rfl, rfl, hb', hroom, hcm, ?_, ?_⟩⟩, fun k hk => .inl hk, Upd.setCells (.inl (by simp)) _ _ (Upd.refl _ _)⟩
      · have h2 : cs'.size = cur.size := by
          have := congrArg List.length hl'
          simp at this
          omega
        omega
      · rw [hl', List.append_assoc, List.drop_append_of_le_length (by simp; omega), ← hown.1]
        rw [show (n + m) * i.size = xs.length + news.length by rw [hown.1, hl, Nat.add_mul]]
        have h3 : (cur.toList.take (off + xs.length)).drop off = xs := by
          rw [List.drop_take, show off + xs.length - off = n * i.size by have := hown.1; omega]
          exact htake
        rw [h3, ← List.append_assoc, List.take_append_of_le_length (by simp), List.take_of_length_le (by simp)]
    · obtain ⟨v', w', hrun, r1, r2⟩ := run_append_arg_grows (P := P) w t ty e i z size bytes ht hi hz hsize hby hzs hsz ⟨g, off, none⟩ n cap xs hown.1 hcell a m c news hl hnews (by omega) h63 hbytes
      obtain ⟨g', cap', own', rfl, rfl, hge, ho⟩ := Own.of_row r1 (Nat.le_refl _) (by omega)
      exact ⟨g', 0, cap', w', _, hrun, ho, fun k hk => by simp at hk; subst hk; exact .inr hge, (Upd.of_grown r2).mono (by simp)⟩

/-- The step for a region that draws, and for one that does not. -/
theorem wp_append_Own {o : Oper} {a : Act} {K : Act → World → Prop} {Q : Exit → Act → World → Prop} (s x : Operand) (t : TypeId)
    (ho : o.op = .call { callee := .builtin .append, args := #[s, x], argTypes := #[t, t] })
    (e : TypeId) (i : TypeInfo) (z : Value) (size bytes : Nat) (ht : P.underlying t = some (.slice e)) (hi : P.info? e = some i) (hz : i.zero = some z)
    (hsize : i.size = size) (hby : i.bytes = bytes) (hzs : z.cells.size = size) (hsz : 0 < size)
    (v : Value) (n : Nat) (xs : List Value) (own : List Nat) (hs : a.eval s = v) (hown : Own w e size v n xs own)
    (ad : Addr) (m c : Nat) (news : List Value) (hx : a.eval x = .slice (some ad) m c) (hl : news.length = m * size) (hnews : ∀ j u, news[j]? = some u → w.cell? (ad.add j) = some u) (h1 : ∀ u ∈ news, u.oneCell' = true)
    (hm : 0 < m) (h63 : n + m ≤ maxLen) (hbytes : (n + m) * bytes ≤ 140737488355328)
    (h : ∀ g off cap w' own', Own w' e size (.slice (some ⟨g, off, none⟩) (n + m) cap) (n + m) (xs ++ news) own' → (∀ k, k ∈ own' → k ∈ own ∨ w.heap.size ≤ k) → Upd own w w' → K (a.put o.dst (.slice (some ⟨g, off, none⟩) (n + m) cap)) w') : o.wp P a w K Q := by
  obtain ⟨g, off, cap, w', own', hrun, h2, h3, h4⟩ := run_append_Own (P := P) w t o.type e i z size bytes ht hi hz hsize hby hzs hsz v n xs own hown ad m c news hl hnews h1 hm h63 hbytes
  unfold Oper.wp execOp
  simp only [ho, resolve, invoke, builtin, Sem.run_bind, Sem.run_pure, Result.andThen_ok, List.map_toArray, List.map_cons, List.map_nil, hs, hx, hrun]
  exact h _ _ _ _ _ h2 h3 h4
theorem wpList_append_Own {ops : Array Oper} {rest : List Oper} {o : Oper} {a : Act} {Q : Exit → Act → World → Prop} (hgd : o.guard = none) (s x : Operand) (t : TypeId)
    (ho : o.op = .call { callee := .builtin .append, args := #[s, x], argTypes := #[t, t] })
    (e : TypeId) (i : TypeInfo) (z : Value) (size bytes : Nat) (ht : P.underlying t = some (.slice e)) (hi : P.info? e = some i) (hz : i.zero = some z)
    (hsize : i.size = size) (hby : i.bytes = bytes) (hzs : z.cells.size = size) (hsz : 0 < size)
    (v : Value) (n : Nat) (xs : List Value) (own : List Nat) (hs : a.eval s = v) (hown : Own w e size v n xs own)
    (ad : Addr) (m c : Nat) (news : List Value) (hx : a.eval x = .slice (some ad) m c) (hl : news.length = m * size) (hnews : ∀ j u, news[j]? = some u → w.cell? (ad.add j) = some u) (h1 : ∀ u ∈ news, u.oneCell' = true)
    (hm : 0 < m) (h63 : n + m ≤ maxLen) (hbytes : (n + m) * bytes ≤ 140737488355328)
    (h : ∀ g off cap w' own', Own w' e size (.slice (some ⟨g, off, none⟩) (n + m) cap) (n + m) (xs ++ news) own' → (∀ k, k ∈ own' → k ∈ own ∨ w.heap.size ≤ k) → Upd own w w' → wpList P ops Q rest (a.put o.dst (.slice (some ⟨g, off, none⟩) (n + m) cap)) w') : wpList P ops Q (o :: rest) a w :=
  wpList_plain hgd fun _ hK => wp_append_Own w s x t ho e i z size bytes ht hi hz hsize hby hzs hsz v n xs own hs hown ad m c news hx hl hnews h1 hm h63 hbytes fun g off cap w' own' h2 h3 h4 => hK _ _ (h g off cap w' own' h2 h3 h4)
theorem step_append_Own {ops : Array Oper} {o : Oper} {a : Act} {K : Act → World → Prop} {Q : Exit → Act → World → Prop} {E : Prop} (hgd : o.guard = none) (s x : Operand) (t : TypeId)
    (ho : o.op = .call { callee := .builtin .append, args := #[s, x], argTypes := #[t, t] })
    (e : TypeId) (i : TypeInfo) (z : Value) (size bytes : Nat) (ht : P.underlying t = some (.slice e)) (hi : P.info? e = some i) (hz : i.zero = some z)
    (hsize : i.size = size) (hby : i.bytes = bytes) (hzs : z.cells.size = size) (hsz : 0 < size)
    (v : Value) (n : Nat) (xs : List Value) (own : List Nat) (hs : a.eval s = v) (hown : Own w e size v n xs own)
    (ad : Addr) (m c : Nat) (news : List Value) (hx : a.eval x = .slice (some ad) m c) (hl : news.length = m * size) (hnews : ∀ j u, news[j]? = some u → w.cell? (ad.add j) = some u) (h1 : ∀ u ∈ news, u.oneCell' = true)
    (hm : 0 < m) (h63 : n + m ≤ maxLen) (hbytes : (n + m) * bytes ≤ 140737488355328)
    (h : ∀ g off cap w' own', Own w' e size (.slice (some ⟨g, off, none⟩) (n + m) cap) (n + m) (xs ++ news) own' → (∀ k, k ∈ own' → k ∈ own ∨ w.heap.size ≤ k) → Upd own w w' → K (a.put o.dst (.slice (some ⟨g, off, none⟩) (n + m) cap)) w') :
    if Region.wanted o (yielded ops a.tmps) = true then Oper.wp P o a w K Q else E := by
  have hw : Region.wanted o (yielded ops a.tmps) = true := by simp [Region.wanted, hgd]
  rw [if_pos hw]
  exact wp_append_Own w s x t ho e i z size bytes ht hi hz hsize hby hzs hsz v n xs own hs hown ad m c news hx hl hnews h1 hm h63 hbytes h
end
end Go.Proofs.YtdccmlpikjbcaaaGreat
