/- Plain: data messages in a row; slices of them; what the two ends of DataOrder do. -/
import Derived.Test.YteflpekokgdllaaDataNu
import Derived.Test.YteflpekokgdllaaWeigh
namespace Go.Proofs.Yteflpekokgdllaa
open Go.RowKit
set_option linter.unusedSimpArgs false
set_option linter.unusedVariables false
set_option maxRecDepth 20000

def Ld.cells (l : Ld) : List Value := [.int .i64 l.tunnel, .int .i64 l.session, .bool l.seq, .int .i64 l.ns, .int .i64 l.nr, .string l.data]
def ldCells (l : List Ld) : List Value := l.flatMap Ld.cells
@[simp] theorem ldCells_length (l : List Ld) : (ldCells l).length = l.length * 6 := by
  induction l with
  | nil => rfl
  | cons a l ih => simp only [ldCells, List.flatMap_cons, List.length_append] at ih ⊢; rw [ih]; simp only [Ld.cells, List.length_cons, List.length_nil]; omega
theorem ldCells_append (l m : List Ld) : ldCells (l ++ m) = ldCells l ++ ldCells m := by simp [ldCells]
theorem ldCells_get (l : List Ld) (i : Nat) {a : Ld} (h : l[i]? = some a) (j : Nat) (hj : j < 6) : (ldCells l)[i * 6 + j]? = a.cells[j]? := by
  induction l generalizing i with
  | nil => simp at h
  | cons b l ih =>
    have hlen : b.cells.length = 6 := rfl
    have hc : ldCells (b :: l) = b.cells ++ ldCells l := by simp [ldCells]
    rw [hc]
    cases i with
    | zero =>
      simp at h; subst h
      rw [Nat.zero_mul, Nat.zero_add, List.getElem?_append_left (by omega)]
    | succ i =>
      rw [List.getElem?_append_right (by rw [hlen]; omega), hlen, show (i + 1) * 6 + j - 6 = i * 6 + j by omega]
      exact ih i (by simpa using h)
def LdAt (w : World) (p : Addr) (a : Ld) : Prop :=
  w.cell? p = some (.int .i64 a.tunnel) ∧ w.cell? ⟨p.block, p.off + 1, none⟩ = some (.int .i64 a.session) ∧ w.cell? ⟨p.block, p.off + 2, none⟩ = some (.bool a.seq) ∧
  w.cell? ⟨p.block, p.off + 3, none⟩ = some (.int .i64 a.ns) ∧ w.cell? ⟨p.block, p.off + 4, none⟩ = some (.int .i64 a.nr) ∧ w.cell? ⟨p.block, p.off + 5, none⟩ = some (.string a.data)
theorem ld_own {w : World} {e : TypeId} {ao : Option Addr} {n cap : Nat} {l : List Ld} {own : List Nat} (h : Own w e 6 (.slice ao n cap) n (ldCells l) own) {i : Nat} {t : Ld} (ht : l[i]? = some t) (hi : i < n) :
    ∃ q, ao = some q ∧ LdAt w (q.add (i * 6)) t := by
  obtain ⟨g, off, cap', hv', _, _, _, h5⟩ := h.form (by omega)
  injection hv' with e1 e2 e3
  refine ⟨_, e1, ?_⟩
  rw [add_plain']
  have key : ∀ j u, j < 6 → t.cells[j]? = some u → w.cell? ⟨g, off + i * 6 + j, none⟩ = some u := fun j u hj hu => by
    rw [Nat.add_assoc]
    exact h5 _ _ ((ldCells_get l i ht j hj).trans hu)
  exact ⟨key 0 _ (by omega) rfl, key 1 _ (by omega) rfl, key 2 _ (by omega) rfl, key 3 _ (by omega) rfl, key 4 _ (by omega) rfl, key 5 _ (by omega) rfl⟩
theorem ld_rd (w : World) (x : Ld) : Rd (w.alloc (.cells #[.int .i64 x.tunnel, .int .i64 x.session, .bool x.seq, .int .i64 x.ns, .int .i64 x.nr, .string x.data] 45)) 6 (.slice (some ⟨w.heap.size, 0, none⟩) 1 1) 1 (ldCells [x]) := by
  refine ⟨_, _, rfl, Nat.le_refl _, by simp [maxLen], by simp, by simp [ldCells, Ld.cells, Value.oneCell'], fun _ => ⟨_, rfl, fun j u hj => ?_⟩⟩
  rw [add_plain', Nat.zero_add, (Blk.new w 45 #[.int .i64 x.tunnel, .int .i64 x.session, .bool x.seq, .int .i64 x.ns, .int .i64 x.nr, .string x.data]).cell]
  simpa [ldCells, Ld.cells] using hj

/-- The i-th message. -/
def bI (i : Nat) : ByteArray := strOfNums [(i : Int)]
theorem bI_size (i : Nat) : (bI i).size = 1 := by rw [bI, strOfNums_size]; rfl
theorem bI_byte (i : Nat) (h : i < 256) : byte (bI i) 0 = i := by
  have := nums_byte [(i : Int)] ⟨#[]⟩ 0 i rfl (by omega)
  have e : strOfNums [(i : Int)] ++ (⟨#[]⟩ : ByteArray) = bI i := ByteArray.append_empty
  rw [e] at this
  exact this
def ldI (i : Nat) : Ld := ⟨3, 4, true, i, 0, bI i⟩
theorem ldI_load (i : Nat) : (Wy.at 3 4 true i).load (bI i) = ldI i := rfl
def lds (k : Nat) : List Ld := (List.range k).map ldI
theorem lds_succ (k : Nat) : lds (k + 1) = lds k ++ [ldI k] := by simp [lds, List.range_succ]
theorem lds_get {k i : Nat} (h : i < k) : (lds k)[i]? = some (ldI i) := by simp [lds, h]
/-- The end that hears all, behind k messages. -/
def Wy.fair (k : Nat) : Wy := if k = 0 then Wy.new 5 6 true else ⟨5, 6, true, 0, k - 1, true, 0, k, 0⟩
theorem fair_ok {k : Nat} (h : k ≤ 1000) : (Wy.fair k).ok := by
  unfold Wy.fair
  split
  · constructor <;> decide
  · constructor <;> simp only <;> omega
theorem fair_get {k : Nat} (h : k < 1000) : (Wy.fair k).get (ldI k) = (Wy.fair (k + 1), bI k, true) := by
  have e1 : (k : Int) % 65536 = k := by omega
  by_cases hk : k = 0
  · subst hk
    rfl
  · have e0 : Wy.fair k = ⟨5, 6, true, 0, k - 1, true, 0, k, 0⟩ := if_neg hk
    have e2 : Wy.fair (k + 1) = ⟨5, 6, true, 0, k, true, 0, k + 1, 0⟩ := by
      rw [Wy.fair, if_neg (by omega)]
      simp
    have e3 : up1 (k : Int) = k + 1 := by unfold up1; omega
    rw [e0, e2, Wy.get, if_pos ⟨rfl, rfl⟩, if_neg]
    · simp only [ldI, e1, e3]
    · simp only [Wy.late, ldI, bef, e1]
      simp
      omega
/-- The end that hears what is picked: what its last one was, and how many it took. -/
structure Hears (N : Nat) (y : Wy) (lst took : Int) : Prop where
  ok : y.ok
  seq : y.seq = true
  last : (y.came = false ∧ lst = -1) ∨ (y.came = true ∧ lst = y.last)
  bd : -1 ≤ lst ∧ lst < N
  took : 0 ≤ took ∧ took ≤ lst + 1
theorem hears_new (N : Nat) : Hears N (Wy.new 5 6 true) (-1) 0 := ⟨by constructor <;> decide, rfl, .inl ⟨rfl, rfl⟩, by omega, by omega⟩
theorem hears_get {N : Nat} (hN : N ≤ 60) {y : Wy} {lst took : Int} (h : Hears N y lst took) {j : Nat} (hj : j < N) :
    (lst < (j : Int) ∧ ∃ y', y.get (ldI j) = (y', bI j, true) ∧ Hears N y' j (took + 1)) ∨ ((j : Int) ≤ lst ∧ ∃ y', y.get (ldI j) = (y', ⟨#[]⟩, false) ∧ Hears N y' lst took) := by
  have e1 : (j : Int) % 65536 = j := by omega
  have hb := h.bd
  have ht := h.took
  by_cases hl : lst < (j : Int)
  · refine .inl ⟨hl, { y with last := j, came := true, taken := up1 y.taken }, ?_, ?_⟩
    · rw [Wy.get, if_pos ⟨h.seq, rfl⟩, if_neg]
      · simp only [ldI, e1]
      · rcases h.last with ⟨h1, h2⟩ | ⟨h1, h2⟩
        · simp [Wy.late, h1]
        · simp only [Wy.late, ldI, bef, e1, h1]
          simp
          omega
    · exact ⟨{ h.ok with taken := up1_ok h.ok.taken, last := by simp only; omega }, h.seq, .inr ⟨rfl, rfl⟩, by omega, by omega⟩
  · refine .inr ⟨by omega, { y with missed := up1 y.missed }, ?_, ?_⟩
    · rw [Wy.get, if_pos ⟨h.seq, rfl⟩, if_pos]
      rcases h.last with ⟨h1, h2⟩ | ⟨h1, h2⟩
      · omega
      · simp only [Wy.late, ldI, bef, e1, h1]
        simp
        omega
    · exact ⟨{ h.ok with missed := up1_ok h.ok.missed }, h.seq, h.last, h.bd, h.took⟩
theorem pick_range (p : Int) (N : Nat) (hN : 0 < N) : ∃ j : Nat, j < N ∧ (bits .and .i64 p 1023).tmod (N : Int) = j := by
  have e : bits .and .i64 p 1023 = p % 1024 := i64_mask p 10 (by omega)
  rw [e, Int.tmod_eq_emod_of_nonneg (by omega)]
  have h1 := Int.emod_nonneg (p % 1024) (show (N : Int) ≠ 0 by omega)
  have h2 := Int.emod_lt_of_pos (p % 1024) (show (0 : Int) < N by omega)
  exact ⟨(p % 1024 % N).toNat, by omega, by omega⟩
open Go.ChangeShapes Go.WideShapes in
theorem ints_in {H : Type} {enc : TypeId × Value → H} {W : World} {v : Value} {d : DataW H} {p : List MemPlace} {base : Nat}
    (h : DataW.Trod enc Try.prog W 0 (fun _ => true) true 57 v d p) (o : Value.okWide Try.prog W .any base 57 v) : ∃ l, IntsAt W v l := by
  obtain ⟨a, len, cap, rfl⟩ := okWide_slice Try.underlying57 o
  rcases slice_came Try.underlying57 h with ⟨rfl, rfl, rfl⟩ | ⟨q, rfl, hl, hm, hel⟩
  · exact ⟨[], IntsAt.nil _⟩
  have hn : Try.prog.cellsOf 3 = 1 := by kernel_rfl
  rw [hn] at hel
  obtain ⟨l, hll, hp⟩ := choose_list (p := fun i (t : Int) => W.cell? (q.add i) = some (.int .i64 t)) (fun i hi => by
    obtain ⟨cs, n, x, hc, ht⟩ := hel i hi
    rw [Nat.mul_one] at hc
    obtain ⟨v, hv, _⟩ := DataW.trod_int Try.underlying3 ht
    have c0 := cell_of_cells hc 0 (by omega)
    refine ⟨v, ?_⟩
    rw [add_add, Nat.add_zero] at c0
    rw [c0, hv]
    rfl)
  exact ⟨l, some q, cap, by rw [hll], by omega, hm, fun i t ht => ⟨q, rfl, hp i t ht⟩⟩
end Go.Proofs.Yteflpekokgdllaa
