/- Plain lemmas on worlds: frames by owned blocks, blocks that are known whole, slices that own their cells at any offset. No program in sight. A slice of structs that came in: its cells, element by element. No program in sight. Plain: whole slices appended to slices that own their cells, whatever their lengths. No program in sight. Plain: slices of values (Avp), as they lie in a world. No program in sight. Numbers: masks of int. Plain: numbers laid into bytes and read again; strings put behind one another and cut. No program in sight. wire.in, wire.Put, wire.Get: numbers in bytes. -/
import Derived.WalkKit
import Derived.WalkSpells
import Derived.WalkLawsBesides
import Derived.Lib.Hide
import Derived.Deep.QuietTactic
import Derived.BigQuiet
import Derived.Deep.RegionHeld3
import Derived.StillTailTactics
import Derived.Deep.AppendLies
import Derived.Deep.RegionLaw
import Derived.Deep.RegionWith
import Derived.Deep.LoopGhost
import Derived.ProofKit
import Derived.Deep.Slices
import Derived.Deep.Upon
import Derived.Laws.BytesArg
import Derived.Test.YtglafpdealjlnaaGreatProg
import Derived.Deep.OwnRows
namespace Go.Proofs.YtglafpdealjlnaaGreat
open Go.RowKit

theorem str_empty (s : ByteArray) : s.toList.isEmpty = decide (s.size = 0) := by
  rw [ByteArray.toList_eq]
  have : s.size = s.data.toList.length := rfl
  rw [this]
  cases s.data.toList <;> simp

theorem str_empty_t {s : ByteArray} (h : s.size = 0) : s.toList.isEmpty = true := by rw [str_empty]; exact decide_eq_true h
theorem str_empty_f {s : ByteArray} (h : s.size ≠ 0) : s.toList.isEmpty = false := by rw [str_empty]; exact decide_eq_false h

/-- The goal's world under a name of its own, with what is to be known of it. -/
theorem gen_world {G : World → Prop} {W : World} (R : World → Prop) (h : R W) (k : ∀ V, R V → G V) : G W := k W h

/-! ### frames -/
structure Upd (F : List Nat) (w w' : World) : Prop where
  os : w'.os = w.os
  tape : w'.tape = w.tape
  output : w'.output = w.output
  size : w.heap.size ≤ w'.heap.size
  block : ∀ k, k < w.heap.size → k ∉ F → w'.heap[k]? = w.heap[k]?

theorem Upd.refl (F : List Nat) (w : World) : Upd F w w := ⟨rfl, rfl, rfl, Nat.le_refl _, fun _ _ _ => rfl⟩
theorem Upd.trans' {F G : List Nat} {a b c : World} (h : Upd F a b) (k : Upd G b c) (hg : ∀ x, x ∈ G → x ∈ F ∨ a.heap.size ≤ x) : Upd F a c :=
  ⟨k.os.trans h.os, k.tape.trans h.tape, k.output.trans h.output, Nat.le_trans h.size k.size,
    fun i hi hn => (k.block i (by have := h.size; omega) (fun hG => by rcases hg i hG with h1 | h1; exact hn h1; omega)).trans (h.block i hi hn)⟩
theorem Upd.trans {F : List Nat} {a b c : World} (h : Upd F a b) (k : Upd F b c) : Upd F a c := h.trans' k fun _ hx => .inl hx
theorem Upd.mono {F G : List Nat} {a b : World} (h : Upd F a b) (hg : ∀ x, x ∈ F → x ∈ G ∨ a.heap.size ≤ x) : Upd G a b :=
  ⟨h.os, h.tape, h.output, h.size, fun k hk hn => h.block k hk fun hF => by rcases hg k hF with h1 | h1; exact hn h1; omega⟩
theorem Upd.drew {F : List Nat} {a b : World} (h : Upd F a b) : Upd F a b.drew := ⟨h.os, h.tape, h.output, h.size, h.block⟩
theorem Upd.drewN {F : List Nat} {a b : World} (n : Nat) (h : Upd F a b) : Upd F a (b.drewN n) := ⟨h.os, h.tape, h.output, h.size, h.block⟩
theorem Upd.undrewN {F : List Nat} {a b : World} {n : Nat} (h : Upd F (a.drewN n) b) : Upd F a b := ⟨h.os, h.tape, h.output, h.size, h.block⟩
theorem Upd.undrew {F : List Nat} {a b : World} (h : Upd F a.drew b) : Upd F a b := ⟨h.os, h.tape, h.output, h.size, h.block⟩
theorem Upd.alloc {F : List Nat} {a b : World} (o : Obj) (h : Upd F a b) : Upd F a (b.alloc o) :=
  ⟨h.os, h.tape, h.output, by have := h.size; simp; omega, fun k hk hn => (Below.heap_alloc b o k (by have := h.size; omega)).trans (h.block k hk hn)⟩
theorem Upd.setCell {F : List Nat} {a b : World} {p : Addr} (u : Value) (h : Upd F a b) (hp : p.block ∈ F ∨ a.heap.size ≤ p.block) : Upd F a (b.setCell p u) :=
  ⟨h.os, h.tape, h.output, by have := h.size; simp [World.setCell]; exact this, fun k hk hn => (Below.heap_setCell b p u k (fun e => by subst e; rcases hp with h1 | h1; exact hn h1; omega)).trans (h.block k hk hn)⟩
theorem Upd.below {w w' : World} (h : Upd [] w w') : Below w.heap.size w w' := ⟨h.os, h.tape, h.output, h.size, fun k hk => h.block k hk (by simp)⟩
theorem Upd.of_below {F : List Nat} {w w' : World} (h : Below w.heap.size w w') : Upd F w w' := ⟨h.os, h.tape, h.output, h.size, fun k hk _ => h.block k hk⟩
theorem Upd.cell {F : List Nat} {w w' : World} (h : Upd F w w') {p : Addr} (hp : p.block < w.heap.size) (hn : p.block ∉ F) : w'.cell? p = w.cell? p := World.cell?_of_block (w := w) (h.block p.block hp hn)
theorem Upd.frozen {F : List Nat} {w w' : World} (h : Upd F w w') {p : Addr} (hp : p.block < w.heap.size) (hn : p.block ∉ F) : w'.frozen? p = w.frozen? p := World.frozen?_of_block (w := w) (h.block p.block hp hn)
theorem Upd.setCells {F : List Nat} {a : World} {g : Nat} (hp : g ∈ F ∨ a.heap.size ≤ g) : ∀ (vs : List Value) (o : Nat) {b : World}, Upd F a b → Upd F a (b.setCells g o vs)
  | [], _, _, h => h
  | v :: r, o, _, h => by rw [World.setCells]; exact Upd.setCells hp r (o + 1) (h.setCell v hp)

/-! ### a block that is known whole -/
def Blk (w : World) (g : Nat) (t : TypeId) (cs : Array Value) : Prop := w.heap[g]? = some (.cells cs t (0, 0))
section
variable {w w' : World} {g : Nat} {t : TypeId} {cs : Array Value}
theorem Blk.lt (h : Blk w g t cs) : g < w.heap.size := by
  rcases Nat.lt_or_ge g w.heap.size with hlt | hge
  · exact hlt
  · unfold Blk at h; rw [Array.getElem?_eq_none hge] at h; cases h
theorem Blk.cell (h : Blk w g t cs) (i : Nat) : w.cell? ⟨g, i, none⟩ = cs[i]? := cell_of_row w g i cs t (0, 0) h
theorem Blk.frozen (h : Blk w g t cs) (i : Nat) : w.frozen? ⟨g, i, none⟩ = false := by
  unfold Blk at h
  simp [World.frozen?, h]
theorem Blk.new (w : World) (t : TypeId) (cs : Array Value) : Blk (w.alloc (.cells cs t)) w.heap.size t cs := heap_alloc_new w _
theorem Blk.drew (h : Blk w g t cs) : Blk w.drew g t cs := h
theorem Blk.drewN (n : Nat) (h : Blk w g t cs) : Blk (w.drewN n) g t cs := h
theorem Blk.alloc (o : Obj) (h : Blk w g t cs) : Blk (w.alloc o) g t cs := (Below.heap_alloc w o g h.lt).trans h
theorem Blk.set_ (i : Nat) (u : Value) (h : Blk w g t cs) : Blk (w.setCell ⟨g, i, none⟩ u) g t (cs.setIfInBounds i u) := by
  unfold Blk at h ⊢
  simp [World.setCell, Array.getElem?_modify, h]
theorem Blk.far {p : Addr} (u : Value) (hp : g ≠ p.block) (h : Blk w g t cs) : Blk (w.setCell p u) g t cs := (Below.heap_setCell w p u g hp).trans h
theorem Blk.upd {F : List Nat} (h : Blk w g t cs) (hb : Upd F w w') (hg : g ∉ F) : Blk w' g t cs := (hb.block g h.lt hg).trans h
theorem Blk.ne_ {g' : Nat} {t' : TypeId} {cs' : Array Value} (h : Blk w g t cs) (h' : Blk w g' t' cs') (hne : t ≠ t') : g ≠ g' := by
  rintro rfl
  unfold Blk at h h'
  rw [h] at h'
  injection h' with h'
  injection h' with _ ht
  exact hne ht
theorem Blk.of_eq {cs' : Array Value} (h : Blk w g t cs) (e : cs = cs') : Blk w g t cs' := e ▸ h
theorem Blk.inj {cs' : Array Value} {t' : TypeId} (h : Blk w g t cs) (h' : Blk w g t' cs') : cs = cs' := by
  unfold Blk at h h'
  rw [h] at h'
  injection h' with h'
  injection h'
end

/-! ### a slice that owns its cells, at whatever offset -/
/-- The slice value v of n elements (size cells each, element type e) reads as the cells xs; own: its block, if it has one. -/
def Own (w : World) (e : TypeId) (size : Nat) (v : Value) (n : Nat) (xs : List Value) (own : List Nat) : Prop :=
  xs.length = n * size ∧
  ((v = .slice none 0 0 ∧ n = 0 ∧ own = []) ∨
   ∃ g off cap cur, v = .slice (some ⟨g, off, none⟩) n cap ∧ own = [g] ∧ Blk w g e cur ∧ n ≤ cap ∧ cap ≤ maxLen ∧ off + cap * size ≤ cur.size ∧ (cur.toList.drop off).take (n * size) = xs)
section
variable {w w' : World} {e : TypeId} {size n : Nat} {v : Value} {xs : List Value} {own : List Nat}
theorem Own.nil (w : World) (e : TypeId) (size : Nat) : Own w e size (.slice none 0 0) 0 [] [] := ⟨by simp, .inl ⟨rfl, rfl, rfl⟩⟩
theorem Own.one_new (w : World) (e : TypeId) (u : Value) : Own (w.alloc (.cells #[u] e)) e 1 (.slice (some ⟨w.heap.size, 0, none⟩) 1 1) 1 [u] [w.heap.size] :=
  ⟨rfl, .inr ⟨w.heap.size, 0, 1, #[u], rfl, rfl, Blk.new _ _ _, Nat.le_refl _, by simp [maxLen], by simp, rfl⟩⟩
theorem Own.lt (h : Own w e size v n xs own) : ∀ k, k ∈ own → k < w.heap.size := by
  intro k hk
  rcases h.2 with ⟨_, _, rfl⟩ | ⟨g, off, cap, cur, _, rfl, hb, _⟩
  · simp at hk
  · simp at hk; subst hk; exact hb.lt
theorem Own.upd {F : List Nat} (h : Own w e size v n xs own) (hu : Upd F w w') (hF : ∀ k, k ∈ own → k ∉ F) : Own w' e size v n xs own := by
  refine ⟨h.1, ?_⟩
  rcases h.2 with h2 | ⟨g, off, cap, cur, h1, rfl, hb, r⟩
  · exact .inl h2
  · exact .inr ⟨g, off, cap, cur, h1, rfl, hb.upd hu (hF g (by simp)), r⟩
theorem Own.drew (h : Own w e size v n xs own) : Own w.drew e size v n xs own := h
theorem Own.drewN (k : Nat) (h : Own w e size v n xs own) : Own (w.drewN k) e size v n xs own := h
theorem Own.alloc (o : Obj) (h : Own w e size v n xs own) : Own (w.alloc o) e size v n xs own := h.upd ((Upd.refl [] w).alloc o) (by simp)
theorem Own.setCell {p : Addr} (u : Value) (h : Own w e size v n xs own) (hp : p.block ∉ own) : Own (w.setCell p u) e size v n xs own :=
  h.upd (F := [p.block]) ((Upd.refl _ w).setCell u (.inl (by simp))) (fun k hk => by simp; rintro rfl; exact hp hk)
theorem Own.ne_blk {g' : Nat} {t' : TypeId} {cs' : Array Value} (h : Own w e size v n xs own) (hb : Blk w g' t' cs') (hne : e ≠ t') : g' ∉ own := by
  rcases h.2 with ⟨_, _, rfl⟩ | ⟨g, off, cap, cur, _, rfl, hg, _⟩
  · simp
  · simp only [List.mem_singleton]
    exact fun e => (hg.ne_ hb hne) e.symm
theorem Own.ne_own {e' : TypeId} {size' n' : Nat} {v' : Value} {xs' : List Value} {own' : List Nat} (h : Own w e size v n xs own) (h' : Own w e' size' v' n' xs' own') (hne : e ≠ e') : ∀ k, k ∈ own → k ∉ own' := by
  intro k hk
  rcases h.2 with ⟨_, _, rfl⟩ | ⟨g, off, cap, cur, _, rfl, hg, _⟩
  · simp at hk
  · simp at hk; subst hk
    exact h'.ne_blk hg (fun e => hne e.symm)
/-- What a slice that is not empty looks like. -/
theorem Own.form (h : Own w e size v n xs own) (hn : 0 < n) : ∃ g off cap, v = .slice (some ⟨g, off, none⟩) n cap ∧ own = [g] ∧ n ≤ cap ∧ cap ≤ maxLen ∧
    (∀ j u, xs[j]? = some u → w.cell? ⟨g, off + j, none⟩ = some u) := by
  rcases h.2 with ⟨_, h0, _⟩ | ⟨g, off, cap, cur, hv, ho, hg, hnc, hc, hs, ht⟩
  · omega
  · refine ⟨g, off, cap, hv, ho, hnc, hc, fun j u hu => ?_⟩
    rw [hg.cell]
    rw [← ht, List.getElem?_take] at hu
    split at hu
    · simpa [List.getElem?_drop] using hu
    · cases hu
theorem Own.shape (h : Own w e size v n xs own) : ∃ ao cap, v = .slice ao n cap ∧ n ≤ cap ∧ cap ≤ maxLen := by
  rcases h.2 with ⟨hv, h0, _⟩ | ⟨g, off, cap, cur, hv, ho, hg, hnc, hc, hs, ht⟩
  · exact ⟨none, 0, by rw [hv, h0], by omega, by simp [maxLen]⟩
  · exact ⟨_, cap, hv, hnc, hc⟩
/-- The slice without its first k elements, as the model cuts it: the address stays where the cut stands at the capacity's end. -/
theorem Own.cut {g off cap k : Nat} (h : Own w e size (.slice (some ⟨g, off, none⟩) n cap) n xs own) (hk : k ≤ n) :
    Own w e size (.slice (if cap = k then some ⟨g, off, none⟩ else some ⟨g, off + k * size, none⟩) (n - k) (cap - k)) (n - k) (xs.drop (k * size)) own := by
  rcases h.2 with ⟨hv, _⟩ | ⟨g', off', cap', cur, hv, ho, hg, hnc, hc, hs, ht⟩
  · cases hv
  · injection hv with h1 h2 h3
    injection h1 with h1
    injection h1 with h4 h5
    subst h4 h5 h3
    refine ⟨by rw [List.length_drop, h.1, Nat.sub_mul], .inr ?_⟩
    by_cases hck : cap = k
    · subst hck
      rw [if_pos rfl]
      refine ⟨g, off, cap - cap, cur, rfl, ho, hg, by omega, by omega, by simp; omega, ?_⟩
      obtain rfl : n = cap := by omega
      rw [← h.1]; simp
    · rw [if_neg hck]
      refine ⟨g, off + k * size, cap - k, cur, rfl, ho, hg, by omega, by omega, ?_, ?_⟩
      · have : k * size ≤ cap * size := Nat.mul_le_mul_right _ (by omega)
        rw [Nat.sub_mul]; omega
      · rw [← ht, List.drop_take, List.drop_drop, Nat.sub_mul]
end

section
variable {P : Program} (w : World)
theorem setCells_blk {g : Nat} {t : TypeId} : ∀ (vs : List Value) (o : Nat) (cs : Array Value) (w : World), Blk w g t cs → o + vs.length ≤ cs.size →
    ∃ cs' : Array Value, Blk (w.setCells g o vs) g t cs' ∧ cs'.toList = cs.toList.take o ++ vs ++ cs.toList.drop (o + vs.length)
  | [], o, cs, w, h, hl => ⟨cs, h, by simp⟩
  | v :: r, o, cs, w, h, hl => by
    simp only [List.length_cons] at hl
    obtain ⟨cs', h1, h2⟩ := setCells_blk r (o + 1) (cs.setIfInBounds o v) _ (h.set_ o v) (by simp; omega)
    refine ⟨cs', h1, ?_⟩
    rw [h2]
    have hlen : o < cs.toList.length := by simp; omega
    simp only [Array.toList_setIfInBounds, List.length_cons]
    rw [List.take_set, List.drop_set, if_pos (by omega), List.take_succ_eq_append_getElem hlen, List.set_append]
    simp only [List.length_take, Array.length_toList]
    rw [if_neg (by omega)]
    have : o - min o cs.size = 0 := by omega
    rw [this]
    simp [Nat.add_assoc, Nat.add_comm 1 r.length]

theorem Own.of_row {base : Nat} {w w1 : World} {e : TypeId} {size n : Nat} {v : Value} {xs : List Value} (h : w1.ownsRow base e size v n xs) (hb : w.heap.size ≤ base) (hn : 0 < n) :
    ∃ g cap own, v = .slice (some ⟨g, 0, none⟩) n cap ∧ own = [g] ∧ w.heap.size ≤ g ∧ Own w1 e size v n xs own := by
  obtain ⟨h1, h2⟩ := h
  rcases h2 with ⟨rfl, rfl⟩ | ⟨g, cap, cur, rfl, hg, hh, hnc, hcm, hcs, htake⟩
  · omega
  · exact ⟨g, cap, [g], rfl, rfl, by omega, h1, .inr ⟨g, 0, cap, cur, rfl, rfl, hh, hnc, hcm, by omega, by simpa using htake⟩⟩

theorem Upd.of_grown {w w' : World} (hg : w.grownBy w' none) : Upd [] w w' := ⟨hg.os, hg.tape, hg.output, hg.size, fun k hk _ => hg.block k hk (by simp)⟩

theorem run_append_Own (t ty e : TypeId) (i : TypeInfo) (z : Value) (size bytes : Nat) (ht : P.underlying t = some (.slice e)) (hi : P.info? e = some i) (hz : i.zero = some z)
    (hsize : i.size = size) (hby : i.bytes = bytes) (hzs : z.cells.size = size) (hsz : 0 < size)
    (v : Value) (n : Nat) (xs : List Value) (own : List Nat) (hown : Own w e size v n xs own)
    (a : Addr) (m c : Nat) (news : List Value) (hl : news.length = m * size) (hnews : ∀ j u, news[j]? = some u → w.cell? (a.add j) = some u) (h1 : ∀ u ∈ news, u.oneCell' = true)
    (hm : 0 < m) (h63 : n + m ≤ maxLen) (hbytes : (n + m) * bytes ≤ 140737488355328) :
    ∃ g off cap w' own', (Builtin.append_ #[t, t] ty #[v, .slice (some a) m c]).run P w = .ok (.slice (some ⟨g, off, none⟩) (n + m) cap) w' ∧ Own w' e size (.slice (some ⟨g, off, none⟩) (n + m) cap) (n + m) (xs ++ news) own' ∧
      (∀ k, k ∈ own' → k ∈ own ∨ w.heap.size ≤ k) ∧ Upd own w w' := by
  rcases hown.2 with ⟨rfl, rfl, rfl⟩ | ⟨g, off, cap, cur, rfl, rfl, hg, hnc, hcm, hcs, htake⟩
  · have hx : xs = [] := List.eq_nil_of_length_eq_zero (by simpa using hown.1)
    subst hx
    obtain ⟨v', w', hrun, r1, r2, _⟩ := run_append_own (P := P) w w.heap.size t ty e i z size bytes ht hi hz hsize hby hzs hsz (.slice none 0 0) 0 [] (World.ownsRow_nil w _ e size) a m c news hl hnews h1 h63 hbytes (Nat.le_refl _)
    obtain ⟨g, cap, own', rfl, rfl, hge, ho⟩ := Own.of_row r1 (Nat.le_refl _) (by omega)
    exact ⟨g, 0, cap, w', _, hrun, ho, fun k hk => by simp at hk; subst hk; exact .inr hge, Upd.of_grown r2⟩
  · have hcell : ∀ j u, xs[j]? = some u → w.cell? ((⟨g, off, none⟩ : Addr).add j) = some u := by
      intro j u hu
      have hadd : (⟨g, off, none⟩ : Addr).add j = ⟨g, off + j, none⟩ := by unfold Addr.add; split <;> simp_all
      rw [hadd, hg.cell]
      rw [← htake, List.getElem?_take] at hu
      split at hu
      · simpa [List.getElem?_drop] using hu
      · cases hu
    by_cases hroom : n + m ≤ cap
    · subst hsize
      have hfit : off + n * i.size + news.length ≤ cur.size := by
        have : (n + m) * i.size ≤ cap * i.size := Nat.mul_le_mul_right _ hroom
        rw [Nat.add_mul] at this
        omega
      have hrun := run_append_room_cells (P := P) w t ty e i ht hi g off n cap a m c news hl hnews h1 hroom
        (fun j hj => by rw [hg.cell]; simp; omega) (fun j hj => hg.frozen _)
      obtain ⟨cs', hb', hl'⟩ := setCells_blk news (off + n * i.size) cur w hg hfit
      refine ⟨g, off, cap, _, [g], hrun, ⟨by rw [List.length_append, hown.1, hl, Nat.add_mul], .inr ⟨g, off, cap, cs', rfl, rfl, hb', hroom, hcm, ?_, ?_⟩⟩, fun k hk => .inl hk, Upd.setCells (.inl (by simp)) _ _ (Upd.refl _ _)⟩
      · have h2 : cs'.size = cur.size := by
          have := congrArg List.length hl'
          simp at this
          omega
        omega
      · rw [hl', List.append_assoc, List.drop_append_of_le_length (by simp; omega), ← hown.1]
        rw [show (n + m) * i.size = xs.length + news.length by rw [hown.1, hl, Nat.add_mul]]
        have h3 : (cur.toList.take (off + xs.length)).drop off = xs := by
          rw [List.drop_take, show off + xs.length - off = n * i.size by have := hown.1; omega]
          exact htake
        rw [h3, ← List.append_assoc, List.take_append_of_le_length (by simp), List.take_of_length_le (by simp)]
    · obtain ⟨v', w', hrun, r1, r2⟩ := run_append_arg_grows (P := P) w t ty e i z size bytes ht hi hz hsize hby hzs hsz ⟨g, off, none⟩ n cap xs hown.1 hcell a m c news hl hnews (by omega) h63 hbytes
      obtain ⟨g', cap', own', rfl, rfl, hge, ho⟩ := Own.of_row r1 (Nat.le_refl _) (by omega)
      exact ⟨g', 0, cap', w', _, hrun, ho, fun k hk => by simp at hk; subst hk; exact .inr hge, (Upd.of_grown r2).mono (by simp)⟩

/-- The step for a region that draws, and for one that does not. -/
theorem wp_append_Own {o : Oper} {a : Act} {K : Act → World → Prop} {Q : Exit → Act → World → Prop} (s x : Operand) (t : TypeId)
    (ho : o.op = .call { callee := .builtin .append, args := #[s, x], argTypes := #[t, t] })
    (e : TypeId) (i : TypeInfo) (z : Value) (size bytes : Nat) (ht : P.underlying t = some (.slice e)) (hi : P.info? e = some i) (hz : i.zero = some z)
    (hsize : i.size = size) (hby : i.bytes = bytes) (hzs : z.cells.size = size) (hsz : 0 < size)
    (v : Value) (n : Nat) (xs : List Value) (own : List Nat) (hs : a.eval s = v) (hown : Own w e size v n xs own)
    (ad : Addr) (m c : Nat) (news : List Value) (hx : a.eval x = .slice (some ad) m c) (hl : news.length = m * size) (hnews : ∀ j u, news[j]? = some u → w.cell? (ad.add j) = some u) (h1 : ∀ u ∈ news, u.oneCell' = true)
    (hm : 0 < m) (h63 : n + m ≤ maxLen) (hbytes : (n + m) * bytes ≤ 140737488355328)
    (h : ∀ g off cap w' own', Own w' e size (.slice (some ⟨g, off, none⟩) (n + m) cap) (n + m) (xs ++ news) own' → (∀ k, k ∈ own' → k ∈ own ∨ w.heap.size ≤ k) → Upd own w w' → K (a.put o.dst (.slice (some ⟨g, off, none⟩) (n + m) cap)) w') : o.wp P a w K Q := by
  obtain ⟨g, off, cap, w', own', hrun, h2, h3, h4⟩ := run_append_Own (P := P) w t o.type e i z size bytes ht hi hz hsize hby hzs hsz v n xs own hown ad m c news hl hnews h1 hm h63 hbytes
  unfold Oper.wp execOp
  simp only [ho, resolve, invoke, builtin, Sem.run_bind, Sem.run_pure, Result.andThen_ok, List.map_toArray, List.map_cons, List.map_nil, hs, hx, hrun]
  exact h _ _ _ _ _ h2 h3 h4
theorem wpList_append_Own {ops : Array Oper} {rest : List Oper} {o : Oper} {a : Act} {Q : Exit → Act → World → Prop} (hgd : o.guard = none) (s x : Operand) (t : TypeId)
    (ho : o.op = .call { callee := .builtin .append, args := #[s, x], argTypes := #[t, t] })
    (e : TypeId) (i : TypeInfo) (z : Value) (size bytes : Nat) (ht : P.underlying t = some (.slice e)) (hi : P.info? e = some i) (hz : i.zero = some z)
    (hsize : i.size = size) (hby : i.bytes = bytes) (hzs : z.cells.size = size) (hsz : 0 < size)
    (v : Value) (n : Nat) (xs : List Value) (own : List Nat) (hs : a.eval s = v) (hown : Own w e size v n xs own)
    (ad : Addr) (m c : Nat) (news : List Value) (hx : a.eval x = .slice (some ad) m c) (hl : news.length = m * size) (hnews : ∀ j u, news[j]? = some u → w.cell? (ad.add j) = some u) (h1 : ∀ u ∈ news, u.oneCell' = true)
    (hm : 0 < m) (h63 : n + m ≤ maxLen) (hbytes : (n + m) * bytes ≤ 140737488355328)
    (h : ∀ g off cap w' own', Own w' e size (.slice (some ⟨g, off, none⟩) (n + m) cap) (n + m) (xs ++ news) own' → (∀ k, k ∈ own' → k ∈ own ∨ w.heap.size ≤ k) → Upd own w w' → wpList P ops Q rest (a.put o.dst (.slice (some ⟨g, off, none⟩) (n + m) cap)) w') : wpList P ops Q (o :: rest) a w :=
  wpList_plain hgd fun _ hK => wp_append_Own w s x t ho e i z size bytes ht hi hz hsize hby hzs hsz v n xs own hs hown ad m c news hx hl hnews h1 hm h63 hbytes fun g off cap w' own' h2 h3 h4 => hK _ _ (h g off cap w' own' h2 h3 h4)
theorem step_append_Own {ops : Array Oper} {o : Oper} {a : Act} {K : Act → World → Prop} {Q : Exit → Act → World → Prop} {E : Prop} (hgd : o.guard = none) (s x : Operand) (t : TypeId)
    (ho : o.op = .call { callee := .builtin .append, args := #[s, x], argTypes := #[t, t] })
    (e : TypeId) (i : TypeInfo) (z : Value) (size bytes : Nat) (ht : P.underlying t = some (.slice e)) (hi : P.info? e = some i) (hz : i.zero = some z)
    (hsize : i.size = size) (hby : i.bytes = bytes) (hzs : z.cells.size = size) (hsz : 0 < size)
    (v : Value) (n : Nat) (xs : List Value) (own : List Nat) (hs : a.eval s = v) (hown : Own w e size v n xs own)
    (ad : Addr) (m c : Nat) (news : List Value) (hx : a.eval x = .slice (some ad) m c) (hl : news.length = m * size) (hnews : ∀ j u, news[j]? = some u → w.cell? (ad.add j) = some u) (h1 : ∀ u ∈ news, u.oneCell' = true)
    (hm : 0 < m) (h63 : n + m ≤ maxLen) (hbytes : (n + m) * bytes ≤ 140737488355328)
    (h : ∀ g off cap w' own', Own w' e size (.slice (some ⟨g, off, none⟩) (n + m) cap) (n + m) (xs ++ news) own' → (∀ k, k ∈ own' → k ∈ own ∨ w.heap.size ≤ k) → Upd own w w' → K (a.put o.dst (.slice (some ⟨g, off, none⟩) (n + m) cap)) w') :
    if Region.wanted o (yielded ops a.tmps) = true then Oper.wp P o a w K Q else E := by
  have hw : Region.wanted o (yielded ops a.tmps) = true := by simp [Region.wanted, hgd]
  rw [if_pos hw]
  exact wp_append_Own w s x t ho e i z size bytes ht hi hz hsize hby hzs hsz v n xs own hs hown ad m c news hx hl hnews h1 hm h63 hbytes h
end
end Go.Proofs.YtglafpdealjlnaaGreat
namespace Go.Proofs.YtglafpdealjlnaaGreat
open Go.RowKit Go.ChangeShapes Go.WideShapes

/-- The slice is nil, or each of its elements lies at its address and reads by its type. -/
theorem slice_came {H : Type} {enc : TypeId × Value → H} {P : Program} {W : World} {t e : TypeId} {ao : Option Addr} {len cap : Nat} {d : DataW H} {p : List MemPlace}
    (ht : P.underlying t = some (.slice e)) (h : DataW.Trod enc P W 0 (fun _ => true) true t (.slice ao len cap) d p) :
    (ao = none ∧ len = 0 ∧ cap = 0) ∨ ∃ a, ao = some a ∧ len ≤ cap ∧ cap ≤ maxLen ∧
      ∀ i, i < len → ∃ cs n x, W.cells? 0 (a.add (i * P.cellsOf e)) (P.cellsOf e) = some cs ∧ DataW.trod enc P W 0 (fun _ => true) true n e cs = some x := by
  obtain ⟨fuel, hf⟩ := h
  rcases Go.Deep.open_slice ht hf with ⟨h1, _⟩ | ⟨a, l, c, m, n, D, Pl, h1, _, hl, hm, hmm, _, hel⟩
  · left
    simp [Value.cells] at h1
    exact h1
  · right
    simp [Value.cells] at h1
    obtain ⟨rfl, rfl, rfl⟩ := h1
    refine ⟨a, rfl, hl, hm, fun i hi => ?_⟩
    obtain ⟨cs, h1, h2⟩ := hel i (by simp at hmm; omega)
    exact ⟨cs, n, _, h1, h2⟩
theorem cell_of_cells {W : World} {base n : Nat} {a : Addr} {cs : List Value} (h : W.cells? base a n = some cs) (j : Nat) (hj : j < n) : W.cell? (a.add j) = cs[j]? := by
  obtain ⟨_, h1, h2⟩ := World.cells?_some h
  exact h2 j hj
theorem field_int {H : Type} {enc : TypeId × Value → H} {P : Program} {W : World} {e : TypeId} {n : Nat} {cs : List Value} {x : DataW H × List MemPlace} {fs : Array Field} {f : Field} {k : IntKind} (i : Nat)
    (hs : P.underlying e = some (.struct fs)) (h : DataW.trod enc P W 0 (fun _ => true) true n e cs = some x) (hf : fs[i]? = some f) (hk : P.underlying f.type = some (.int k)) (hc : P.cellsOf f.type = 1) :
    ∃ v, cs[f.offset]? = some (.int k v) ∧ (Lit.int k v).wf = true := by
  obtain ⟨xs, m, _, _, hl, hxs, hall⟩ := DataW.trod_struct hs h
  have h1 := hall i f hf
  rw [hc] at h1
  have hi : i < xs.length := by rw [hxs]; exact (Array.getElem?_eq_some_iff.1 hf).1
  rw [List.getElem?_eq_getElem hi] at h1
  obtain ⟨v, hv, _, hw⟩ := DataW.trod_int hk h1
  refine ⟨v, ?_, hw⟩
  have := congrArg (fun l => l[0]?) hv
  simpa [List.getElem?_take, List.getElem?_drop] using this
theorem field_string {H : Type} {enc : TypeId × Value → H} {P : Program} {W : World} {e : TypeId} {n : Nat} {cs : List Value} {x : DataW H × List MemPlace} {fs : Array Field} {f : Field} (i : Nat)
    (hs : P.underlying e = some (.struct fs)) (h : DataW.trod enc P W 0 (fun _ => true) true n e cs = some x) (hf : fs[i]? = some f) (hk : P.underlying f.type = some .string) (hc : P.cellsOf f.type = 1) :
    ∃ v, cs[f.offset]? = some (.string v) ∧ v.size ≤ maxLen := by
  obtain ⟨xs, m, _, _, hl, hxs, hall⟩ := DataW.trod_struct hs h
  have h1 := hall i f hf
  rw [hc] at h1
  have hi : i < xs.length := by rw [hxs]; exact (Array.getElem?_eq_some_iff.1 hf).1
  rw [List.getElem?_eq_getElem hi] at h1
  obtain ⟨v, hv, _, hw⟩ := DataW.trod_string hk h1
  refine ⟨v, ?_, hw⟩
  have := congrArg (fun l => l[0]?) hv
  simpa [List.getElem?_take, List.getElem?_drop] using this
theorem field_bool {H : Type} {enc : TypeId × Value → H} {P : Program} {W : World} {e : TypeId} {n : Nat} {cs : List Value} {x : DataW H × List MemPlace} {fs : Array Field} {f : Field} (i : Nat)
    (hs : P.underlying e = some (.struct fs)) (h : DataW.trod enc P W 0 (fun _ => true) true n e cs = some x) (hf : fs[i]? = some f) (hk : P.underlying f.type = some .bool) (hc : P.cellsOf f.type = 1) :
    ∃ v, cs[f.offset]? = some (.bool v) := by
  obtain ⟨xs, m, _, _, hl, hxs, hall⟩ := DataW.trod_struct hs h
  have h1 := hall i f hf
  rw [hc] at h1
  have hi : i < xs.length := by rw [hxs]; exact (Array.getElem?_eq_some_iff.1 hf).1
  rw [List.getElem?_eq_getElem hi] at h1
  obtain ⟨v, hv, _⟩ := DataW.trod_bool hk h1
  refine ⟨v, ?_⟩
  have := congrArg (fun l => l[0]?) hv
  simpa [List.getElem?_take, List.getElem?_drop] using this
theorem add_add (a : Addr) (i j : Nat) : (a.add i).add j = a.add (i + j) := by
  unfold Addr.add
  by_cases hi : i = 0 <;> by_cases hj : j = 0 <;> simp [hi, hj, Nat.add_assoc]
theorem add_block (a : Addr) (n : Nat) : (a.add n).block = a.block := by unfold Addr.add; split <;> rfl
end Go.Proofs.YtglafpdealjlnaaGreat
namespace Go.Proofs.YtglafpdealjlnaaGreat
open Go.RowKit
set_option linter.unusedSimpArgs false

theorem cell_lt' {w : World} {a : Addr} {v : Value} (h : w.cell? a = some v) : a.block < w.heap.size := by
  unfold World.cell? at h
  by_cases hl : a.block < w.heap.size
  · exact hl
  · rw [Array.getElem?_eq_none (by omega)] at h
    simp at h
theorem str_inj' {s t : ByteArray} : s.toList = t.toList ↔ s = t := by
  rw [ByteArray.toList_eq, ByteArray.toList_eq]
  constructor
  · intro h; exact ByteArray.ext (Array.toList_inj.1 h)
  · rintro rfl; rfl
theorem add_plain' (g off n : Nat) : (⟨g, off, none⟩ : Addr).add n = ⟨g, off + n, none⟩ := by unfold Addr.add; split <;> simp_all

/-- The slice value v of n elements reads as the cells xs. -/
def Rd (w : World) (size : Nat) (v : Value) (n : Nat) (xs : List Value) : Prop :=
  ∃ ao c, v = .slice ao n c ∧ n ≤ c ∧ c ≤ maxLen ∧ xs.length = n * size ∧ (∀ u ∈ xs, u.oneCell' = true) ∧ (0 < n → ∃ a, ao = some a ∧ ∀ j u, xs[j]? = some u → w.cell? (a.add j) = some u)
theorem Rd.upd {w w' : World} {size n : Nat} {v : Value} {xs : List Value} (h : Rd w size v n xs) (hu : Upd [] w w') : Rd w' size v n xs := by
  obtain ⟨ao, c, hv, h1, h2, h3, h4, h5⟩ := h
  refine ⟨ao, c, hv, h1, h2, h3, h4, fun hn => ?_⟩
  obtain ⟨a, ha, h6⟩ := h5 hn
  exact ⟨a, ha, fun j u hj => (hu.cell (cell_lt' (h6 j u hj)) (by simp)).trans (h6 j u hj)⟩
theorem Rd.src {P : Program} {w : World} {size n : Nat} {v : Value} {xs : List Value} {t e : TypeId} (ht : P.underlying t = some (.slice e)) (h : Rd w size v n xs) : Src P size t v n xs w := by
  obtain ⟨ao, c, rfl, h1, h2, h3, h4, h5⟩ := h
  by_cases hn : 0 < n
  · obtain ⟨a, rfl, h6⟩ := h5 hn
    exact Src.ofSlice w ht a n c xs h3 h6 h4
  · obtain rfl : n = 0 := by omega
    have hx : xs = [] := List.eq_nil_of_length_eq_zero (by simpa using h3)
    subst hx
    cases ao with
    | none => exact Src.ofNil w ht c
    | some a => exact Src.ofSlice w ht a 0 c [] (by simp) (by simp) (by simp)
theorem add_off (q : Addr) (i j : Nat) (hj : 0 < j) : q.add (i + j) = ⟨(q.add i).block, (q.add i).off + j, none⟩ := by
  unfold Addr.add
  split
  · omega
  · split
    · rename_i hz; congr 1; omega
    · simp [Nat.add_assoc]

section
variable {P : Program} (w : World)
theorem run_append_keep (t ty e : TypeId) (i : TypeInfo) (z : Value) (size bytes : Nat) (ht : P.underlying t = some (.slice e)) (hi : P.info? e = some i) (hz : i.zero = some z)
    (hsize : i.size = size) (hby : i.bytes = bytes) (hzs : z.cells.size = size) (hsz : 0 < size)
    (v : Value) (n : Nat) (xs : List Value) (own : List Nat) (hown : Own w e size v n xs own)
    (a : Addr) (m c : Nat) (news : List Value) (hl : news.length = m * size) (hnews : ∀ j u, news[j]? = some u → w.cell? (a.add j) = some u) (h1 : ∀ u ∈ news, u.oneCell' = true)
    (hm : 0 < m) (h63 : n + m ≤ maxLen) (hbytes : (n + m) * bytes ≤ 140737488355328) :
    ∃ g off cap w' own', (Builtin.append_ #[t, t] ty #[v, .slice (some a) m c]).run P w = .ok (.slice (some ⟨g, off, none⟩) (n + m) cap) w' ∧ Own w' e size (.slice (some ⟨g, off, none⟩) (n + m) cap) (n + m) (xs ++ news) own' ∧
      (∀ k, k ∈ own' → k ∈ own ∨ w.heap.size ≤ k) ∧ Upd own w w' ∧ Own w' e size v n xs own := by
  rcases hown.2 with ⟨rfl, rfl, rfl⟩ | ⟨g, off, cap, cur, rfl, rfl, hg, hnc, hcm, hcs, htake⟩
  · have hx : xs = [] := List.eq_nil_of_length_eq_zero (by simpa using hown.1)
    subst hx
    obtain ⟨v', w', hrun, r1, r2, _⟩ := run_append_own (P := P) w w.heap.size t ty e i z size bytes ht hi hz hsize hby hzs hsz (.slice none 0 0) 0 [] (World.ownsRow_nil w _ e size) a m c news hl hnews h1 h63 hbytes (Nat.le_refl _)
    obtain ⟨g, cap, own', rfl, rfl, hge, ho⟩ := Own.of_row r1 (Nat.le_refl _) (by omega)
    exact ⟨g, 0, cap, w', _, hrun, ho, fun k hk => by simp at hk; subst hk; exact .inr hge, Upd.of_grown r2, Own.nil _ _ _⟩
  · have hcell : ∀ j u, xs[j]? = some u → w.cell? ((⟨g, off, none⟩ : Addr).add j) = some u := by
      intro j u hu
      have hadd : (⟨g, off, none⟩ : Addr).add j = ⟨g, off + j, none⟩ := by unfold Addr.add; split <;> simp_all
      rw [hadd, hg.cell]
      rw [← htake, List.getElem?_take] at hu
      split at hu
      · simpa [List.getElem?_drop] using hu
      · cases hu
    by_cases hroom : n + m ≤ cap
    · subst hsize
      have hfit : off + n * i.size + news.length ≤ cur.size := by
        have : (n + m) * i.size ≤ cap * i.size := Nat.mul_le_mul_right _ hroom
        rw [Nat.add_mul] at this
        omega
      have hrun := run_append_room_cells (P := P) w t ty e i ht hi g off n cap a m c news hl hnews h1 hroom
        (fun j hj => by rw [hg.cell]; simp; omega) (fun j hj => hg.frozen _)
      obtain ⟨cs', hb', hl'⟩ := setCells_blk news (off + n * i.size) cur w hg hfit
      refine ⟨g, off, cap, _, [g], hrun, ⟨by rw [List.length_append, hown.1, hl, Nat.add_mul], .inr ⟨g, off, cap, cs', rfl, rfl, hb', hroom, hcm, ?_, ?_⟩⟩, fun k hk => .inl hk, Upd.setCells (.inl (by simp)) _ _ (Upd.refl _ _), hown.1, .inr ⟨g, off, cap, cs', rfl, rfl, hb', hnc, hcm, ?_, ?_⟩⟩
      · have h2 : cs'.size = cur.size := by
          have := congrArg List.length hl'
          simp at this
          omega
        omega
      · rw [hl', List.append_assoc, List.drop_append_of_le_length (by simp; omega), ← hown.1]
        rw [show (n + m) * i.size = xs.length + news.length by rw [hown.1, hl, Nat.add_mul]]
        have h3 : (cur.toList.take (off + xs.length)).drop off = xs := by
          rw [List.drop_take, show off + xs.length - off = n * i.size by have := hown.1; omega]
          exact htake
        rw [h3, ← List.append_assoc, List.take_append_of_le_length (by simp), List.take_of_length_le (by simp)]
      · have h2 : cs'.size = cur.size := by
          have := congrArg List.length hl'
          simp at this
          omega
        omega
      · rw [hl', List.append_assoc, List.drop_append_of_le_length (by simp; omega)]
        have h3 : (cur.toList.take (off + n * i.size)).drop off = xs := by
          rw [List.drop_take, show off + n * i.size - off = n * i.size by omega]
          exact htake
        rw [h3, ← hown.1, List.take_left]
    · obtain ⟨v', w', hrun, r1, r2⟩ := run_append_arg_grows (P := P) w t ty e i z size bytes ht hi hz hsize hby hzs hsz ⟨g, off, none⟩ n cap xs hown.1 hcell a m c news hl hnews (by omega) h63 hbytes
      obtain ⟨g', cap', own', rfl, rfl, hge, ho⟩ := Own.of_row r1 (Nat.le_refl _) (by omega)
      exact ⟨g', 0, cap', w', _, hrun, ho, fun k hk => by simp at hk; subst hk; exact .inr hge, (Upd.of_grown r2).mono (by simp), hown.upd (Upd.of_grown r2) (by simp)⟩

theorem run_append_Rd (t ty e : TypeId) (i : TypeInfo) (z : Value) (size bytes : Nat) (ht : P.underlying t = some (.slice e)) (hi : P.info? e = some i) (hz : i.zero = some z)
    (hsize : i.size = size) (hby : i.bytes = bytes) (hzs : z.cells.size = size) (hsz : 0 < size)
    (v : Value) (n : Nat) (xs : List Value) (own : List Nat) (hown : Own w e size v n xs own)
    (x : Value) (m : Nat) (news : List Value) (hx : Rd w size x m news) (h63 : n + m ≤ maxLen) (hbytes : (n + m) * bytes ≤ 140737488355328) :
    ∃ ao cap w' own', (Builtin.append_ #[t, t] ty #[v, x]).run P w = .ok (.slice ao (n + m) cap) w' ∧ Own w' e size (.slice ao (n + m) cap) (n + m) (xs ++ news) own' ∧
      (∀ k, k ∈ own' → k ∈ own ∨ w.heap.size ≤ k) ∧ Upd own w w' := by
  by_cases hm : 0 < m
  · obtain ⟨ao, c, rfl, h1, h2, h3, h4, h5⟩ := hx
    obtain ⟨a, rfl, h6⟩ := h5 hm
    obtain ⟨g, off, cap, w', own', r1, r2, r3, r4⟩ := run_append_Own (P := P) w t ty e i z size bytes ht hi hz hsize hby hzs hsz v n xs own hown a m c news h3 h6 h4 hm h63 hbytes
    exact ⟨_, cap, w', own', r1, r2, r3, r4⟩
  · obtain rfl : m = 0 := by omega
    have hxs : news = [] := by
      obtain ⟨ao, c, rfl, h1, h2, h3, h4, h5⟩ := hx
      exact List.eq_nil_of_length_eq_zero (by simpa using h3)
    subst hxs
    obtain ⟨ao, cap, rfl, hle, hcm⟩ := hown.shape
    subst hsize
    refine ⟨ao, cap, w, own, run_append_nothing w t t ty e i ht hi ao n cap hle x (hx.src ht), ?_, fun k hk => .inl hk, Upd.refl _ _⟩
    simpa using hown

theorem wp_append_Rd {o : Oper} {a : Act} {K : Act → World → Prop} {Q : Exit → Act → World → Prop} (s x : Operand) (t : TypeId)
    (ho : o.op = .call { callee := .builtin .append, args := #[s, x], argTypes := #[t, t] })
    (e : TypeId) (i : TypeInfo) (z : Value) (size bytes : Nat) (ht : P.underlying t = some (.slice e)) (hi : P.info? e = some i) (hz : i.zero = some z)
    (hsize : i.size = size) (hby : i.bytes = bytes) (hzs : z.cells.size = size) (hsz : 0 < size)
    (v : Value) (n : Nat) (xs : List Value) (own : List Nat) (hs : a.eval s = v) (hown : Own w e size v n xs own)
    (u : Value) (m : Nat) (news : List Value) (hx : a.eval x = u) (hu : Rd w size u m news) (h63 : n + m ≤ maxLen) (hbytes : (n + m) * bytes ≤ 140737488355328)
    (h : ∀ ao cap w' own', Own w' e size (.slice ao (n + m) cap) (n + m) (xs ++ news) own' → (∀ k, k ∈ own' → k ∈ own ∨ w.heap.size ≤ k) → Upd own w w' → K (a.put o.dst (.slice ao (n + m) cap)) w') : o.wp P a w K Q := by
  obtain ⟨ao, cap, w', own', hrun, h2, h3, h4⟩ := run_append_Rd (P := P) w t o.type e i z size bytes ht hi hz hsize hby hzs hsz v n xs own hown u m news hu h63 hbytes
  unfold Oper.wp execOp
  simp only [ho, resolve, invoke, builtin, Sem.run_bind, Sem.run_pure, Result.andThen_ok, List.map_toArray, List.map_cons, List.map_nil, hs, hx, hrun]
  exact h _ _ _ _ h2 h3 h4
theorem wpList_append_Rd {ops : Array Oper} {rest : List Oper} {o : Oper} {a : Act} {Q : Exit → Act → World → Prop} (hgd : o.guard = none) (s x : Operand) (t : TypeId)
    (ho : o.op = .call { callee := .builtin .append, args := #[s, x], argTypes := #[t, t] })
    (e : TypeId) (i : TypeInfo) (z : Value) (size bytes : Nat) (ht : P.underlying t = some (.slice e)) (hi : P.info? e = some i) (hz : i.zero = some z)
    (hsize : i.size = size) (hby : i.bytes = bytes) (hzs : z.cells.size = size) (hsz : 0 < size)
    (v : Value) (n : Nat) (xs : List Value) (own : List Nat) (hs : a.eval s = v) (hown : Own w e size v n xs own)
    (u : Value) (m : Nat) (news : List Value) (hx : a.eval x = u) (hu : Rd w size u m news) (h63 : n + m ≤ maxLen) (hbytes : (n + m) * bytes ≤ 140737488355328)
    (h : ∀ ao cap w' own', Own w' e size (.slice ao (n + m) cap) (n + m) (xs ++ news) own' → (∀ k, k ∈ own' → k ∈ own ∨ w.heap.size ≤ k) → Upd own w w' → wpList P ops Q rest (a.put o.dst (.slice ao (n + m) cap)) w') : wpList P ops Q (o :: rest) a w :=
  wpList_plain hgd fun _ hK => wp_append_Rd w s x t ho e i z size bytes ht hi hz hsize hby hzs hsz v n xs own hs hown u m news hx hu h63 hbytes fun ao cap w' own' h2 h3 h4 => hK _ _ (h ao cap w' own' h2 h3 h4)
theorem wpList_append_Rd_w {ops : Array Oper} {rest : List Oper} {o : Oper} {a : Act} {Q : Exit → Act → World → Prop} (hgd : Region.wanted o (yielded ops a.tmps) = true) (s x : Operand) (t : TypeId)
    (ho : o.op = .call { callee := .builtin .append, args := #[s, x], argTypes := #[t, t] })
    (e : TypeId) (i : TypeInfo) (z : Value) (size bytes : Nat) (ht : P.underlying t = some (.slice e)) (hi : P.info? e = some i) (hz : i.zero = some z)
    (hsize : i.size = size) (hby : i.bytes = bytes) (hzs : z.cells.size = size) (hsz : 0 < size)
    (v : Value) (n : Nat) (xs : List Value) (own : List Nat) (hs : a.eval s = v) (hown : Own w e size v n xs own)
    (u : Value) (m : Nat) (news : List Value) (hx : a.eval x = u) (hu : Rd w size u m news) (h63 : n + m ≤ maxLen) (hbytes : (n + m) * bytes ≤ 140737488355328)
    (h : ∀ ao cap w' own', Own w' e size (.slice ao (n + m) cap) (n + m) (xs ++ news) own' → (∀ k, k ∈ own' → k ∈ own ∨ w.heap.size ≤ k) → Upd own w w' → wpList P ops Q rest (a.put o.dst (.slice ao (n + m) cap)) w') : wpList P ops Q (o :: rest) a w := by
  show (if Region.wanted o (yielded ops a.tmps) = true then _ else _)
  rw [if_pos hgd]
  exact .inl (wp_append_Rd w s x t ho e i z size bytes ht hi hz hsize hby hzs hsz v n xs own hs hown u m news hx hu h63 hbytes fun ao cap w' own' h2 h3 h4 => h ao cap w' own' h2 h3 h4)
end
end Go.Proofs.YtglafpdealjlnaaGreat
namespace Go.Proofs.YtglafpdealjlnaaGreat
open Go.RowKit
set_option linter.unusedSimpArgs false

structure Av where
  must : Bool
  hidden : Bool
  vendor : Int
  kind : Int
  val : ByteArray
deriving DecidableEq
def Av.cells (a : Av) : List Value := [.bool a.must, .bool a.hidden, .int .i64 a.vendor, .int .i64 a.kind, .string a.val]
def Av.agg (a : Av) : Value := .agg #[.bool a.must, .bool a.hidden, .int .i64 a.vendor, .int .i64 a.kind, .string a.val]
/-- A value lies at an address. -/
def AvAt (w : World) (p : Addr) (a : Av) : Prop :=
  w.cell? p = some (.bool a.must) ∧ w.cell? ⟨p.block, p.off + 1, none⟩ = some (.bool a.hidden) ∧ w.cell? ⟨p.block, p.off + 2, none⟩ = some (.int .i64 a.vendor) ∧
  w.cell? ⟨p.block, p.off + 3, none⟩ = some (.int .i64 a.kind) ∧ w.cell? ⟨p.block, p.off + 4, none⟩ = some (.string a.val)
theorem AvAt.upd {w w' : World} {p : Addr} {a : Av} (h : AvAt w p a) (hu : Upd [] w w') : AvAt w' p a := by
  obtain ⟨h0, h1, h2, h3, h4⟩ := h
  exact ⟨(hu.cell (cell_lt' h0) (by simp)).trans h0, (hu.cell (cell_lt' h1) (by simp)).trans h1, (hu.cell (cell_lt' h2) (by simp)).trans h2, (hu.cell (cell_lt' h3) (by simp)).trans h3, (hu.cell (cell_lt' h4) (by simp)).trans h4⟩
/-- The slice value v reads as these values. -/
def AvsAt (w : World) (v : Value) (l : List Av) : Prop :=
  ∃ ao cap, v = .slice ao l.length cap ∧ l.length ≤ cap ∧ cap ≤ maxLen ∧ ∀ i a, l[i]? = some a → ∃ q, ao = some q ∧ AvAt w (q.add (i * 5)) a
theorem AvsAt.upd {w w' : World} {v : Value} {l : List Av} (h : AvsAt w v l) (hu : Upd [] w w') : AvsAt w' v l := by
  obtain ⟨ao, cap, rfl, h1, h2, h3⟩ := h
  refine ⟨ao, cap, rfl, h1, h2, fun i t ht => ?_⟩
  obtain ⟨q, rfl, k⟩ := h3 i t ht
  exact ⟨q, rfl, k.upd hu⟩
theorem AvsAt.nil (w : World) : AvsAt w (.slice none 0 0) [] := ⟨none, 0, rfl, by simp, by simp [maxLen], by simp⟩
theorem AvsAt.take {w : World} {ao : Option Addr} {n cap : Nat} {l : List Av} (h : AvsAt w (.slice ao n cap) l) (k : Nat) (hk : k ≤ l.length) : AvsAt w (.slice ao k cap) (l.take k) := by
  obtain ⟨ao', cap', e, h1, h2, h3⟩ := h
  injection e with e1 e2 e3
  subst e1 e3
  have hl : (l.take k).length = k := by rw [List.length_take]; omega
  refine ⟨ao, cap, by rw [hl], by omega, h2, fun i t ht => ?_⟩
  rw [List.getElem?_take] at ht
  split at ht
  · exact h3 i t ht
  · cases ht
def avCells (l : List Av) : List Value := l.flatMap Av.cells
@[simp] theorem avCells_length (l : List Av) : (avCells l).length = l.length * 5 := by
  induction l with
  | nil => rfl
  | cons a l ih => simp only [avCells, List.flatMap_cons, List.length_append] at ih ⊢; rw [ih]; simp only [Av.cells, List.length_cons, List.length_nil]; omega
theorem avCells_append (l m : List Av) : avCells (l ++ m) = avCells l ++ avCells m := by simp [avCells]
theorem avCells_snoc (l : List Av) (a : Av) : avCells (l ++ [a]) = avCells l ++ [.bool a.must, .bool a.hidden, .int .i64 a.vendor, .int .i64 a.kind, .string a.val] := by simp [avCells, Av.cells]
theorem avCells_get (l : List Av) (i : Nat) {a : Av} (h : l[i]? = some a) (j : Nat) (hj : j < 5) : (avCells l)[i * 5 + j]? = a.cells[j]? := by
  induction l generalizing i with
  | nil => simp at h
  | cons b l ih =>
    have hlen : b.cells.length = 5 := rfl
    have hc : avCells (b :: l) = b.cells ++ avCells l := by simp [avCells]
    rw [hc]
    cases i with
    | zero =>
      simp at h; subst h
      rw [Nat.zero_mul, Nat.zero_add, List.getElem?_append_left (by omega)]
    | succ i =>
      rw [List.getElem?_append_right (by rw [hlen]; omega), hlen, show (i + 1) * 5 + j - 5 = i * 5 + j by omega]
      exact ih i (by simpa using h)
theorem AvsAt.of_own {w : World} {e : TypeId} {v : Value} {l : List Av} {own : List Nat} (h : Own w e 5 v l.length (avCells l) own) : AvsAt w v l := by
  obtain ⟨ao, cap, hv, h1, h2⟩ := h.shape
  refine ⟨ao, cap, hv, h1, h2, fun i t ht => ?_⟩
  have hi : 0 < l.length := by
    have := (List.getElem?_eq_some_iff.1 ht).1
    omega
  obtain ⟨g, off, cap', hv', _, _, _, h5⟩ := h.form hi
  rw [hv] at hv'
  injection hv' with e1 e2 e3
  refine ⟨_, e1, ?_⟩
  rw [add_plain']
  have key : ∀ j u, j < 5 → t.cells[j]? = some u → w.cell? ⟨g, off + i * 5 + j, none⟩ = some u := fun j u hj hu => by
    rw [Nat.add_assoc]
    exact h5 _ _ ((avCells_get l i ht j hj).trans hu)
  exact ⟨key 0 _ (by omega) rfl, key 1 _ (by omega) rfl, key 2 _ (by omega) rfl, key 3 _ (by omega) rfl, key 4 _ (by omega) rfl⟩
theorem AvsAt.of_blk {w : World} {g : Nat} {t : TypeId} {l : List Av} (h : Blk w g t (avCells l).toArray) (hl : l.length ≤ maxLen) : AvsAt w (.slice (some ⟨g, 0, none⟩) l.length l.length) l := by
  refine ⟨_, _, rfl, Nat.le_refl _, hl, fun i x hx => ⟨_, rfl, ?_⟩⟩
  rw [add_plain', Nat.zero_add]
  have key : ∀ j u, j < 5 → x.cells[j]? = some u → w.cell? ⟨g, i * 5 + j, none⟩ = some u := fun j u hj hu => by
    rw [h.cell]
    have := (avCells_get l i hx j hj).trans hu
    simpa using this
  exact ⟨key 0 _ (by omega) rfl, key 1 _ (by omega) rfl, key 2 _ (by omega) rfl, key 3 _ (by omega) rfl, key 4 _ (by omega) rfl⟩
/-- The slice without its first k values. -/
theorem AvsAt.drop {w : World} {q : Addr} {n cap : Nat} {l : List Av} (h : AvsAt w (.slice (some q) n cap) l) (k : Nat) (hk : k ≤ l.length) :
    AvsAt w (.slice (if cap = k then some q else some (q.add (k * 5))) (l.length - k) (cap - k)) (l.drop k) := by
  obtain ⟨ao', cap', e, h1, h2, h3⟩ := h
  injection e with e1 e2 e3
  subst e1 e3
  have hl : (l.drop k).length = l.length - k := List.length_drop ..
  refine ⟨_, _, by rw [hl], by omega, by omega, fun i t ht => ?_⟩
  have hil : i < l.length - k := by
    have := (List.getElem?_eq_some_iff.1 ht).1
    omega
  rw [List.getElem?_drop] at ht
  obtain ⟨q', e', k1⟩ := h3 _ t ht
  injection e' with e'
  subst e'
  rw [if_neg (by omega)]
  refine ⟨_, rfl, ?_⟩
  rw [add_add, ← Nat.add_mul]
  exact k1

theorem AvsAt.rd {w : World} {v : Value} {l : List Av} (h : AvsAt w v l) : Rd w 5 v l.length (avCells l) := by
  obtain ⟨ao, cap, rfl, h1, h2, h3⟩ := h
  refine ⟨ao, cap, rfl, h1, h2, avCells_length l, ?_, fun hn => ?_⟩
  · intro u hu
    simp only [avCells, List.mem_flatMap, Av.cells] at hu
    obtain ⟨t, _, hu⟩ := hu
    simp at hu
    rcases hu with rfl | rfl | rfl | rfl | rfl <;> rfl
  · obtain ⟨q, rfl, _⟩ := h3 0 l[0] (by simp [hn])
    refine ⟨q, rfl, fun j u hj => ?_⟩
    have hjl : j < l.length * 5 := by
      have := (List.getElem?_eq_some_iff.1 hj).1
      simpa using this
    obtain ⟨t, htt⟩ : ∃ t, l[j / 5]? = some t := ⟨_, List.getElem?_eq_getElem (by omega)⟩
    obtain ⟨q', e', k0, k1, k2, k3, k4⟩ := h3 (j / 5) t htt
    injection e' with e'
    subst e'
    have hcell := avCells_get l (j / 5) htt (j % 5) (by omega)
    rw [show j / 5 * 5 + j % 5 = j by omega, hj] at hcell
    have hjm : j % 5 = 0 ∨ j % 5 = 1 ∨ j % 5 = 2 ∨ j % 5 = 3 ∨ j % 5 = 4 := by omega
    have hja : q.add j = q.add (j / 5 * 5 + j % 5) := congrArg _ (by omega)
    rw [hja]
    rcases hjm with h | h | h | h | h
    · rw [h] at hcell ⊢; rw [Nat.add_zero]; rw [k0]; exact hcell.symm
    · rw [h] at hcell ⊢; rw [add_off _ _ _ (by omega), k1]; exact hcell.symm
    · rw [h] at hcell ⊢; rw [add_off _ _ _ (by omega), k2]; exact hcell.symm
    · rw [h] at hcell ⊢; rw [add_off _ _ _ (by omega), k3]; exact hcell.symm
    · rw [h] at hcell ⊢; rw [add_off _ _ _ (by omega), k4]; exact hcell.symm
end Go.Proofs.YtglafpdealjlnaaGreat
namespace Go.Proofs.YtglafpdealjlnaaGreat
open Go.RowKit
theorem i64_mask (n : Int) (m : Nat) (hm : m < 63) : bits .and .i64 n (2 ^ m - 1 : Nat) = n % (2 ^ m : Nat) := by
  have hp : (2 : Nat) ^ m ≤ 2 ^ 62 := Nat.pow_le_pow_right (by omega) (by omega)
  have hp0 : 0 < (2 : Nat) ^ m := Nat.pow_pos (by omega)
  have h1 : (BitVec.ofInt 64 ((2 ^ m - 1 : Nat) : Int)).toNat = 2 ^ m - 1 := by
    rw [BitVec.toNat_ofInt]
    have : (((2 ^ m - 1 : Nat) : Int) % ((2 ^ 64 : Nat) : Int)).toNat = (2 ^ m - 1) % 2 ^ 64 := by
      rw [← Int.natCast_emod, Int.toNat_natCast]
    rw [this, Nat.mod_eq_of_lt]
    have : (2 : Nat) ^ 62 < 2 ^ 64 := by decide
    omega
  have h2 : (BitVec.ofInt 64 n).toNat = (n % (2 ^ 64 : Nat)).toNat := BitVec.toNat_ofInt ..
  have h3 : (BitVec.ofInt 64 n &&& BitVec.ofInt 64 ((2 ^ m - 1 : Nat) : Int)).toNat = (n % (2 ^ 64 : Nat)).toNat % 2 ^ m := by
    rw [BitVec.toNat_and, h1, h2, Nat.and_two_pow_sub_one_eq_mod]
  show IntKind.i64.wrap ((BitVec.ofInt 64 n &&& BitVec.ofInt 64 ((2 ^ m - 1 : Nat) : Int)).toNat : Nat) = _
  rw [h3]
  have h4 : ((n % ((2 ^ 64 : Nat) : Int)).toNat : Int) = n % ((2 ^ 64 : Nat) : Int) := Int.toNat_of_nonneg (Int.emod_nonneg _ (by decide))
  have h5 : (((n % ((2 ^ 64 : Nat) : Int)).toNat % 2 ^ m : Nat) : Int) = n % ((2 ^ m : Nat) : Int) := by
    rw [Int.natCast_emod, h4]
    exact Int.emod_emod_of_dvd n (by exact_mod_cast Nat.pow_dvd_pow 2 (by omega))
  rw [h5]
  have h6 : 0 ≤ n % ((2 ^ m : Nat) : Int) := Int.emod_nonneg _ (by omega)
  have h7 : n % ((2 ^ m : Nat) : Int) < ((2 ^ m : Nat) : Int) := Int.emod_lt_of_pos _ (by omega)
  have h8 : (2 : Nat) ^ 62 = 4611686018427387904 := by decide
  exact IntWalk.i64_in _ (by omega)
theorem i64_and65535 (n : Int) : bits .and .i64 n 65535 = n % 65536 := i64_mask n 16 (by omega)
end Go.Proofs.YtglafpdealjlnaaGreat
namespace Go.Proofs.YtglafpdealjlnaaGreat
open Go.RowKit

/-- Byte j of the number v laid into n bytes. -/
def byteAt (v : Int) (n j : Nat) : Int := v / 2 ^ (8 * (n - 1 - j)) % 256
/-- The number v in n bytes. -/
def be (n : Nat) (v : Int) : ByteArray := strOfNums ((List.range n).map (byteAt v n))
/-- Byte i of a string, as a number. -/
def byte (s : ByteArray) (i : Nat) : Int := ((s.data[i]?).getD 0).toNat
/-- The number in n bytes at a place. -/
def num (s : ByteArray) (i : Nat) : Nat → Int
  | 0 => 0
  | n + 1 => num s i n * 256 + byte s (i + n)

theorem be_size (n : Nat) (v : Int) : (be n v).size = n := by simp [be, strOfNums_size]
theorem byte_bd (s : ByteArray) (i : Nat) : 0 ≤ byte s i ∧ byte s i < 256 := by
  unfold byte
  have := ((s.data[i]?).getD 0).toNat_lt
  omega
theorem num_bd (s : ByteArray) (i : Nat) : ∀ n, 0 ≤ num s i n ∧ num s i n < 256 ^ n
  | 0 => by simp [num]
  | n + 1 => by
    have h := num_bd s i n
    have hb := byte_bd s (i + n)
    rw [num, Int.pow_succ]
    omega
theorem byteAt_bd (v : Int) (n j : Nat) : 0 ≤ byteAt v n j ∧ byteAt v n j < 256 := by
  unfold byteAt
  omega
theorem be_byte (n : Nat) (v : Int) (j : Nat) (hj : j < n) : byte (be n v) j = byteAt v n j := by
  have hb := byteAt_bd v n j
  simp only [byte, be, strOfNums]
  simp [hj]
  omega
theorem append_byte_l (s t : ByteArray) (i : Nat) (hi : i < s.size) : byte (s ++ t) i = byte s i := by
  simp only [byte, ByteArray.data_append]
  rw [Array.getElem?_append_left (show _ from hi)]
theorem append_byte_r (s t : ByteArray) (i : Nat) (hi : s.size ≤ i) : byte (s ++ t) i = byte t (i - s.size) := by
  simp only [byte, ByteArray.data_append]
  rw [Array.getElem?_append_right (show _ from hi)]
  rfl
theorem num_append_l (s t : ByteArray) (i : Nat) : ∀ n, i + n ≤ s.size → num (s ++ t) i n = num s i n
  | 0, _ => rfl
  | n + 1, h => by rw [num, num, num_append_l s t i n (by omega), append_byte_l s t _ (by omega)]
theorem num_append_r (s t : ByteArray) (i : Nat) (hi : s.size ≤ i) : ∀ n, num (s ++ t) i n = num t (i - s.size) n
  | 0 => rfl
  | n + 1 => by rw [num, num, num_append_r s t i hi n, append_byte_r s t _ (by omega), show i + n - s.size = i - s.size + n by omega]
theorem emod_two (x m : Int) (hm : 0 < m) : x % (256 * m) = x / 256 % m * 256 + x % 256 := by
  have h1 := Int.mul_ediv_add_emod (x / 256) m
  have h2 := Int.emod_nonneg (x / 256) (show m ≠ 0 by omega)
  have h3 := Int.emod_lt_of_pos (x / 256) hm
  have e : x = (x / 256 % m * 256 + x % 256) + 256 * m * (x / 256 / m) := by
    rw [Int.mul_assoc]
    omega
  have e2 := congrArg (· % (256 * m)) e
  simp only [Int.add_mul_emod_self_left] at e2
  rw [e2]
  exact Int.emod_eq_of_lt (by omega) (by omega)
theorem num_be_aux (v : Int) (n : Nat) : ∀ k, k ≤ n → num (be n v) 0 k = v / 2 ^ (8 * (n - k)) % 256 ^ k
  | 0, _ => by simp [num]
  | k + 1, h => by
    rw [num, num_be_aux v n k (by omega), Nat.zero_add, be_byte n v k (by omega), byteAt]
    obtain ⟨m, rfl⟩ : ∃ m, n = m + (k + 1) := ⟨n - (k + 1), by omega⟩
    rw [show m + (k + 1) - k = m + 1 by omega, show m + (k + 1) - 1 - k = m by omega, show m + (k + 1) - (k + 1) = m by omega]
    have e1 : (2 : Int) ^ (8 * (m + 1)) = 2 ^ (8 * m) * 256 := by rw [Nat.mul_add, Int.pow_add]; rfl
    have e2 : v / 2 ^ (8 * (m + 1)) = v / 2 ^ (8 * m) / 256 := by rw [e1, Int.ediv_ediv_of_nonneg (Int.pow_nonneg (by decide))]
    rw [e2, Int.pow_succ, Int.mul_comm ((256 : Int) ^ k) 256, emod_two _ _ (Int.pow_pos (by decide))]
theorem num_be (n : Nat) (v : Int) (h : 0 ≤ v ∧ v < 256 ^ n) : num (be n v) 0 n = v := by
  rw [num_be_aux v n n (Nat.le_refl _)]
  simp only [Nat.sub_self, Nat.mul_zero, Int.pow_zero, Int.ediv_one]
  exact Int.emod_eq_of_lt h.1 h.2
end Go.Proofs.YtglafpdealjlnaaGreat
namespace Go.Proofs.YtglafpdealjlnaaGreat
open Go.RowKit
set_option maxRecDepth 100000

set_option maxHeartbeats 400000 in
theorem wireIn_any (n a b : Int) (w : World) :
    Calls Tryz.prog 306 #[.int .i64 n, .int .i64 a, .int .i64 b] w fun e w' => e = .returned (.bool (decide (a ≤ n) && decide (n ≤ b))) ∧ w = w' := by
  go_enter Tryz.func306, Tryz.ntmps306
  go_wp2
  all_goals
    go_ret
    refine ⟨?_, rfl⟩
    simp_all
    try omega

theorem pow256 (n : Nat) : (2 : Int) ^ (8 * n) = 256 ^ n := by rw [Int.pow_mul]; rfl

set_option maxHeartbeats 400000 in
theorem wirePut_bad (v : Int) (n : Nat) (hn : 1 ≤ n ∧ n ≤ 4) (hv : ¬ (0 ≤ v ∧ v < 256 ^ n)) (w : World) :
    Calls Tryz.prog 242 #[.int .i64 v, .int .i64 n] w fun e w' => e = .returned (.tuple #[.string ⟨#[]⟩, .int .i64 1]) ∧ w = w' := by
  by_cases t1 : v < 0
  · go_enter Tryz.func242, Tryz.ntmps242
    go_wp2_with fail
    refine (wireIn_any _ _ _ _).mono ?_
    rintro e w' ⟨rfl, rfl⟩
    go_wp2
    go_ret2
    exact ⟨rfl, rfl⟩
  · have tq : ¬ (v / 2 ^ (8 * n) = 0) := by
      rw [pow256]
      intro h
      have hp : (0 : Int) < 256 ^ n := Int.pow_pos (by decide)
      have h2 := Int.lt_ediv_add_one_mul_self v hp
      rw [h] at h2
      exact hv ⟨by omega, by omega⟩
    have tq : (v / 2 ^ (8 * n) != 0) = true := by simpa using tq
    go_enter Tryz.func242, Tryz.ntmps242
    go_wp2_with fail
    refine (wireIn_any _ _ _ _).mono ?_
    rintro e w' ⟨rfl, rfl⟩
    go_wp2
    go_ret2
    exact ⟨rfl, rfl⟩

set_option maxHeartbeats 1000000 in
theorem wirePut_ok (v : Int) (n : Nat) (hn : 1 ≤ n ∧ n ≤ 4) (hv : 0 ≤ v ∧ v < 256 ^ n) (w : World) :
    Calls Tryz.prog 242 #[.int .i64 v, .int .i64 n] w fun e w' => e = .returned (.tuple #[.string (be n v), .int .i64 0]) ∧ Upd [] w w' := by
  have tq : v / 2 ^ (8 * n) = 0 := by
    rw [pow256]
    exact Int.ediv_eq_zero_of_lt hv.1 hv.2
  have hv0 := hv.1
  have HV := Lib.hid hv
  clear hv
  have info5 : (Tryz.prog.info? 5).map (fun i => (i.zero, i.size, i.bytes)) = some (some (.int .u8 0), 1, 1) := by kernel_rfl
  have hmk := run_make_row' (P := Tryz.prog) 151 5 (.int .u8 0) 1 Tryz.underlying151 info5 rfl .i64 .i64 n (by omega) (by omega)
  go_enter Tryz.func242, Tryz.ntmps242
  go_wp2_with fail
  refine (wireIn_any _ _ _ _).mono ?_
  rintro e w' ⟨rfl, rfl⟩
  go_wp2
  go_loopg [26] n (fun m s26 wr => ∃ k : Nat, k + m = n ∧ s26 = .int .i64 k ∧ Upd [] w wr ∧ wr.rowIs w.heap.size 5 n (fun j => .int .u8 (if n ≤ j + k then byteAt v n j else 0)))
  case atStart => 
    refine ⟨0, by omega, rfl, (Upd.refl _ _).alloc _, ?_⟩
    refine (World.rowIs_made w (.int .u8 0) n 5).congr fun j hj => ?_
    rw [if_neg (by omega)]
  case round =>
    obtain ⟨k, hk, rfl, hu, hr⟩ := hrel
    by_cases t : k < n
    · have hf := hr.frozen (n - 1 - k)
      have hc := hr.cell (i := n - 1 - k) (by omega)
      go_wp2
      go_roundg (n - (k + 1))
      case rel =>
        refine ⟨k + 1, by omega, by go_num, hu.setCell _ (.inr (Nat.le_refl _)), ?_⟩
        refine (hr.set _ _).congr fun j hj => ?_
        by_cases hjk : j = n - 1 - k
        · subst hjk
          rw [if_pos rfl, if_pos (by omega), byteAt, show n - 1 - (n - 1 - k) = k by omega]
        · rw [if_neg hjk]
          by_cases h2 : n ≤ j + k
          · rw [if_pos h2, if_pos (by omega)]
          · rw [if_neg h2, if_neg (by omega)]
      case measure => omega
    · obtain rfl : k = n := by omega
      have hcv := run_convert_bytes_arg (P := Tryz.prog) wr 151 5 Tryz.underlying151 Tryz.underlying5 w.heap.size 0 k k ((List.range k).map (byteAt v k)) (by simp) (fun i hi => by rw [Nat.zero_add, hr.cell hi]; simp [hi]) 9 Tryz.underlying9
      go_wp2
      go_ret2
      exact ⟨rfl, hu⟩

theorem or_low (a x : Int) (h : 0 ≤ a ∧ a < 16777216 ∧ 0 ≤ x ∧ x < 256) : bits .or .i64 (wrap64 (a * 256)) (wrap64 x) = a * 256 + x := by
  obtain ⟨m, rfl⟩ := Int.eq_ofNat_of_zero_le h.1
  obtain ⟨y, rfl⟩ := Int.eq_ofNat_of_zero_le h.2.2.1
  rw [IntWalk.wrap64_in _ (by omega), IntWalk.wrap64_in _ (by omega)]
  have h1 : (BitVec.ofInt 64 ((m : Int) * 256)).toNat = m * 256 := by
    rw [BitVec.toNat_ofInt]
    omega
  have h2 : (BitVec.ofInt 64 (y : Int)).toNat = y := by
    rw [BitVec.toNat_ofInt]
    omega
  show IntKind.i64.wrap ((BitVec.ofInt 64 ((m : Int) * 256) ||| BitVec.ofInt 64 (y : Int)).toNat : Nat) = _
  rw [BitVec.toNat_or, h1, h2, show m * 256 = 2 ^ 8 * m by omega, ← Nat.two_pow_add_eq_or_of_lt (by omega)]
  rw [IntWalk.i64_in _ (by omega)]
  omega

theorem byte_get (s : ByteArray) (i : Nat) (h : i < s.size) : (s[i].toNat : Int) = byte s i := by
  have h' : i < s.data.size := h
  simp only [byte, Array.getElem?_eq_getElem h', Option.getD_some]
  rfl

set_option maxHeartbeats 1000000 in
theorem wireGet_bad (s : ByteArray) (i n : Nat) (hn : 1 ≤ n ∧ n ≤ 4) (hv : ¬ (i + n ≤ s.size)) (w : World) :
    Calls Tryz.prog 235 #[.string s, .int .i64 i, .int .i64 n] w fun e w' => e = .returned (.tuple #[.int .i64 0, .int .i64 5]) ∧ w = w' := by
  by_cases t1 : s.size < i
  · go_enter Tryz.func235, Tryz.ntmps235
    go_wp2_with fail
    refine (wireIn_any _ _ _ _).mono ?_
    rintro e w' ⟨rfl, rfl⟩
    go_wp2
    go_ret2
    exact ⟨rfl, rfl⟩
  · go_enter Tryz.func235, Tryz.ntmps235
    go_wp2_with fail
    refine (wireIn_any _ _ _ _).mono ?_
    rintro e w' ⟨rfl, rfl⟩
    go_wp2
    go_ret2
    exact ⟨rfl, rfl⟩

set_option maxHeartbeats 1000000 in
theorem wireGet_ok (s : ByteArray) (i n : Nat) (hn : 1 ≤ n ∧ n ≤ 4) (hs : s.size ≤ maxLen) (hv : i + n ≤ s.size) (w : World) :
    Calls Tryz.prog 235 #[.string s, .int .i64 i, .int .i64 n] w fun e w' => e = .returned (.tuple #[.int .i64 (num s i n), .int .i64 0]) ∧ w = w' := by
  simp only [maxLen] at hs
  have q1 : ¬ s.size < i := by omega
  have q2 : ¬ ((s.size : Int) - i < n) := by omega
  have q3 : ¬ ((i : Int) < 0) := by omega
  go_enter Tryz.func235, Tryz.ntmps235
  go_wp2_with fail
  refine (wireIn_any _ _ _ _).mono ?_
  rintro e w' ⟨rfl, rfl⟩
  go_wp2
  go_loopg [8, 32] n (fun m s8 s32 wr => wr = w ∧ ∃ k : Nat, k + m = n ∧ s32 = .int .i64 k ∧ s8 = .int .i64 (num s i k))
  case atStart => exact ⟨rfl, 0, by omega, rfl, rfl⟩
  case round =>
    obtain ⟨rfl, k, hk, rfl, rfl⟩ := hrel
    by_cases t : k < n
    · have hE : Hid (bits .or .i64 (wrap64 (num s i k * 256)) (wrap64 (s[i + k].toNat : Int)) = num s i (k + 1)) := by
        have h1 := num_bd s i k
        have h2 := byte_bd s (i + k)
        have h3 : (256 : Int) ^ k ≤ 256 ^ 3 := by
          have h4 : k = 0 ∨ k = 1 ∨ k = 2 ∨ k = 3 := by omega
          rcases h4 with h4 | h4 | h4 | h4 <;> rw [h4] <;> decide
        show _ = _
        rw [← byte_get s (i + k) (by omega)] at h2
        rw [or_low _ _ (by omega), byte_get s (i + k) (by omega)]
        rfl
      go_wp2
      go_roundg (n - (k + 1))
      case rel => exact ⟨rfl, k + 1, by omega, by go_num, by rw [hE.out]⟩
      case measure => omega
    · obtain rfl : k = n := by omega
      go_wp2
      go_ret2
      exact ⟨rfl, rfl⟩
end Go.Proofs.YtglafpdealjlnaaGreat
