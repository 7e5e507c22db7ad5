/- Plain: messages that are put are got, with whatever behind them, and are told from the other sort. -/
import Derived.Test.YtcplhlokbnaabaaMsgJ
import Derived.Test.YtcplhlokbnaabaaMsgK
namespace Go.Proofs.Ytcplhlokbnaabaa
open Go.RowKit
set_option linter.unusedSimpArgs false
set_option linter.unusedVariables false

theorem wordsOf_pre : ∀ (l : List Int) (s t : ByteArray), wordsOf l (s ++ t) = s ++ wordsOf l t
  | [], s, t => rfl
  | n :: l, s, t => by rw [wordsOf, wordsOf, ByteArray.append_assoc, wordsOf_pre]
theorem wordsOf_cons (n : Int) (l : List Int) : wordsOf (n :: l) ⟨#[]⟩ = be 2 n ++ wordsOf l ⟨#[]⟩ := by
  rw [wordsOf]
  have h := wordsOf_pre l (be 2 n) ⟨#[]⟩
  have e : be 2 n ++ (⟨#[]⟩ : ByteArray) = be 2 n := ByteArray.append_empty
  have e' : (⟨#[]⟩ : ByteArray) ++ be 2 n = be 2 n := ByteArray.empty_append
  rw [e'] 
  rw [e] at h
  exact h
theorem num_words (a r : ByteArray) : ∀ (l : List Int) (i : Nat) (x : Int), l[i]? = some x → 0 ≤ x ∧ x < 65536 → num (a ++ (wordsOf l ⟨#[]⟩ ++ r)) (a.size + 2 * i) 2 = x
  | [], i, x, h, _ => by simp at h
  | n :: l, 0, x, h, hx => by
    simp at h; subst h
    rw [wordsOf_cons, ByteArray.append_assoc, num_append_r _ _ _ (by omega), show a.size + 2 * 0 - a.size = 0 by omega, num_append_l _ _ _ _ (by rw [be_size]; omega)]
    exact num_be 2 n (by simpa using hx)
  | n :: l, i + 1, x, h, hx => by
    have h2 : l[i]? = some x := by simpa using h
    have := num_words (a ++ be 2 n) r l i x h2 hx
    rw [wordsOf_cons]
    rw [ByteArray.size_append, be_size] at this
    rw [show a.size + 2 * (i + 1) = a.size + 2 + 2 * i by omega, ← this]
    simp only [ByteArray.append_assoc]
/-- Two bytes, words, and what stands behind them, read. -/
theorem laid_read (x y : Int) (l : List Int) (d more : ByteArray) (hx : 0 ≤ x ∧ x < 256) (hy : 0 ≤ y ∧ y < 256) (S : ByteArray) (hS : S = strOfNums [x, y] ++ wordsOf l ⟨#[]⟩ ++ d ++ more) :
    S.size = 2 + 2 * l.length + d.size + more.size ∧ byte S 0 = x ∧ byte S 1 = y ∧ (∀ i z, l[i]? = some z → 0 ≤ z ∧ z < 65536 → num S (2 + 2 * i) 2 = z) ∧ S.extract (2 + 2 * l.length) (2 + 2 * l.length + d.size) = d := by
  have hz : (strOfNums [x, y]).size = 2 := strOfNums_size _
  have hw : (wordsOf l ⟨#[]⟩).size = 2 * l.length := by rw [wordsOf_size]; show 0 + _ = _; omega
  have hb : ∀ i, i < 2 → byte S i = byte (strOfNums [x, y]) i := fun i hi => by
    rw [hS, append_byte_l _ _ _ (by rw [ByteArray.size_append, ByteArray.size_append]; omega), append_byte_l _ _ _ (by rw [ByteArray.size_append]; omega), append_byte_l _ _ _ (by omega)]
  refine ⟨?_, ?_, ?_, ?_, ?_⟩
  · rw [hS, ByteArray.size_append, ByteArray.size_append, ByteArray.size_append, hz, hw]
  · rw [hb 0 (by omega)]
    simp [byte, strOfNums]
    omega
  · rw [hb 1 (by omega)]
    simp [byte, strOfNums]
    omega
  · intro i z hi hzz
    have := num_words (strOfNums [x, y]) (d ++ more) l i z hi hzz
    rw [hz] at this
    rw [hS, ByteArray.append_assoc, ByteArray.append_assoc, this]
  · rw [hS]
    rw [extract_app_left _ _ _ _ (by rw [ByteArray.size_append, ByteArray.size_append, hz, hw]; omega)]
    exact ByteArray.extract_append_eq_right (by rw [ByteArray.size_append, hz, hw]) (by rw [ByteArray.size_append, hz, hw])

theorem getM_putM {c : Cm} {secret : ByteArray} (h : (putM c secret).2 = 0) (more : ByteArray) : getM ((putM c secret).1 ++ more) secret = (c, 0) := by
  obtain ⟨t, s, ns, nr, l⟩ := c
  unfold putM at h ⊢
  dsimp only at h ⊢
  by_cases t1 : ([t, s, ns, nr] : List Int).any overWord = true
  · rw [if_pos t1] at h; cases h
  rw [if_neg t1] at h ⊢
  by_cases t2 : (putA l secret).2 ≠ 0
  · rw [if_pos t2] at h; exact absurd h t2
  rw [if_neg t2]
  have t3 := Classical.not_not.1 t2
  have hg := getA_put t3
  obtain ⟨-, -, h3, h4⟩ := putA_ok t3
  rw [← h3] at h4
  generalize (putA l secret).1 = x at *
  have hr : (0 ≤ t ∧ t < 65536) ∧ (0 ≤ s ∧ s < 65536) ∧ (0 ≤ ns ∧ ns < 65536) ∧ (0 ≤ nr ∧ nr < 65536) := by
    simp [overWord] at t1
    omega
  obtain ⟨g1, g2, g3, g4, g5⟩ := laid_read 200 2 [(x.size : Int) + 12, t, s, ns, nr] x more (by omega) (by omega) (rawOf t s ns nr x ++ more) rfl
  have k0 := g4 0 _ rfl (by omega)
  have k1 := g4 1 _ rfl hr.1
  have k2 := g4 2 _ rfl hr.2.1
  have k3 := g4 3 _ rfl hr.2.2.1
  have k4 := g4 4 _ rfl hr.2.2.2
  simp only [List.length_cons, List.length_nil, Nat.reduceAdd, Nat.reduceMul, Nat.mul_zero] at g1 g5 k0 k1 k2 k3 k4
  dsimp only
  generalize rawOf t s ns nr x ++ more = S at *
  unfold getM
  rw [if_neg (by omega), if_neg (by rw [g2, g3]; simp), k0, k1, k2, k3, k4, if_neg (by omega), if_neg (by omega), show ((x.size : Int) + 12).toNat = 12 + x.size by omega, g5, hg, if_neg (by simp)]
theorem putM_ctl {c : Cm} {secret : ByteArray} (h : (putM c secret).2 = 0) : isCtlB (putM c secret).1 = true ∧ (getL (putM c secret).1).2 = 4 ∧ (putM c secret).1.size ≤ 1500 := by
  obtain ⟨t, s, ns, nr, l⟩ := c
  unfold putM at h ⊢
  dsimp only at h ⊢
  by_cases t1 : ([t, s, ns, nr] : List Int).any overWord = true
  · rw [if_pos t1] at h; cases h
  rw [if_neg t1] at h ⊢
  by_cases t2 : (putA l secret).2 ≠ 0
  · rw [if_pos t2] at h; exact absurd h t2
  rw [if_neg t2]
  have t3 := Classical.not_not.1 t2
  obtain ⟨-, -, h3, h4⟩ := putA_ok t3
  rw [← h3] at h4
  generalize (putA l secret).1 = x at *
  have e : rawOf t s ns nr x = rawOf t s ns nr x ++ ⟨#[]⟩ := ByteArray.append_empty.symm
  obtain ⟨g1, g2, g3, g4, g5⟩ := laid_read 200 2 [(x.size : Int) + 12, t, s, ns, nr] x ⟨#[]⟩ (by omega) (by omega) (rawOf t s ns nr x) e
  simp only [List.length_cons, List.length_nil, Nat.reduceAdd, Nat.reduceMul] at g1
  have hz : (⟨#[]⟩ : ByteArray).size = 0 := rfl
  dsimp only
  generalize rawOf t s ns nr x = S at *
  refine ⟨?_, ?_, by omega⟩
  · unfold isCtlB
    rw [g2, decide_eq_true (show S.size ≠ 0 by omega)]
    rfl
  · unfold getL
    rw [if_neg (by omega), g2, if_pos (.inl (by omega))]
theorem Ld.put_ok {l : Ld} (h : l.put.2 = 0) : l.bad = false ∧ l.data.size ≤ 1460 ∧ l.put.1 = l.bytes := by
  unfold Ld.put at h ⊢
  by_cases t1 : l.bad = true
  · rw [if_pos t1] at h; cases h
  rw [if_neg t1] at h ⊢
  by_cases t2 : 1460 < l.data.size
  · rw [if_pos t2] at h; cases h
  rw [if_neg t2]
  exact ⟨by simpa using t1, by omega, rfl⟩
theorem Ld.read {l : Ld} (h : l.put.2 = 0) (more secret : ByteArray) : getL (l.put.1 ++ more) = (l, 0) ∧ isCtlB l.put.1 = false ∧ (12 ≤ (l.put.1 ++ more).size → (getM (l.put.1 ++ more) secret).2 = 4) ∧ l.put.1.size ≤ 1500 ∧ 8 ≤ l.put.1.size := by
  obtain ⟨h1, h2, h3⟩ := Ld.put_ok h
  rw [h3]
  clear h h3
  obtain ⟨t, s, q, ns, nr, d⟩ := l
  have hb : ([t, s, ns, nr].any (fun n => decide (n < 0) || decide (65535 < n)) || (!q && (!decide (ns = 0) || !decide (nr = 0)))) = false := h1
  rw [Bool.or_eq_false_iff] at hb
  obtain ⟨hb1, hb2⟩ := hb
  have hr : (0 ≤ t ∧ t < 65536) ∧ (0 ≤ s ∧ s < 65536) ∧ (0 ≤ ns ∧ ns < 65536) ∧ (0 ≤ nr ∧ nr < 65536) := by
    simp at hb1
    omega
  dsimp only at h2
  have hz0 : (⟨#[]⟩ : ByteArray).size = 0 := rfl
  have key : ∀ (y : Int) (S : ByteArray), 0 < S.size → byte S 0 = y → (y = 64 ∨ y = 72) → isCtlB S = false := fun y S hs hy h => by
    unfold isCtlB
    rw [hy]
    rcases h with rfl | rfl <;> simp
  have keyM : ∀ (y : Int) (S : ByteArray), byte S 0 = y → (y = 64 ∨ y = 72) → 12 ≤ S.size → (getM S secret).2 = 4 := fun y S hy h hs => by
    unfold getM
    rw [if_neg (by omega), hy, if_pos (.inl (by omega))]
  cases q
  · have hn : ns = 0 ∧ nr = 0 := by simpa using hb2
    obtain ⟨rfl, rfl⟩ := hn
    have eb : (⟨t, s, false, 0, 0, d⟩ : Ld).bytes = strOfNums [64, 2] ++ wordsOf [(d.size : Int) + 8, t, s] ⟨#[]⟩ ++ d := rfl
    rw [eb]
    have e0 : strOfNums [64, 2] ++ wordsOf [(d.size : Int) + 8, t, s] ⟨#[]⟩ ++ d = strOfNums [64, 2] ++ wordsOf [(d.size : Int) + 8, t, s] ⟨#[]⟩ ++ d ++ ⟨#[]⟩ := ByteArray.append_empty.symm
    obtain ⟨f1, f2, -, -, -⟩ := laid_read 64 2 [(d.size : Int) + 8, t, s] d ⟨#[]⟩ (by omega) (by omega) _ e0
    obtain ⟨g1, g2, g3, g4, g5⟩ := laid_read 64 2 [(d.size : Int) + 8, t, s] d more (by omega) (by omega) _ rfl
    have k0 := g4 0 _ rfl (by omega)
    have k1 := g4 1 _ rfl hr.1
    have k2 := g4 2 _ rfl hr.2.1
    simp only [List.length_cons, List.length_nil, Nat.reduceAdd, Nat.reduceMul, Nat.mul_zero] at f1 g1 g5 k0 k1 k2
    refine ⟨?_, key 64 _ (by omega) f2 (.inl rfl), keyM 64 _ g2 (.inl rfl), by omega, by omega⟩
    generalize strOfNums [64, 2] ++ wordsOf [(d.size : Int) + 8, t, s] ⟨#[]⟩ ++ d ++ more = S at *
    unfold getL
    have h72 : ¬ ((64 : Int) = 72) := by decide
    rw [if_neg (by omega), g2, g3, if_neg (by simp), k0, k1, k2, if_neg (by omega), if_neg h72, if_neg (by omega), if_neg (by omega), if_neg h72, show ((d.size : Int) + 8).toNat = 8 + d.size by omega, g5]
  · have eb : (⟨t, s, true, ns, nr, d⟩ : Ld).bytes = strOfNums [72, 2] ++ wordsOf [(d.size : Int) + 12, t, s, ns, nr] ⟨#[]⟩ ++ d := rfl
    rw [eb]
    have e0 : strOfNums [72, 2] ++ wordsOf [(d.size : Int) + 12, t, s, ns, nr] ⟨#[]⟩ ++ d = strOfNums [72, 2] ++ wordsOf [(d.size : Int) + 12, t, s, ns, nr] ⟨#[]⟩ ++ d ++ ⟨#[]⟩ := ByteArray.append_empty.symm
    obtain ⟨f1, f2, -, -, -⟩ := laid_read 72 2 [(d.size : Int) + 12, t, s, ns, nr] d ⟨#[]⟩ (by omega) (by omega) _ e0
    obtain ⟨g1, g2, g3, g4, g5⟩ := laid_read 72 2 [(d.size : Int) + 12, t, s, ns, nr] d more (by omega) (by omega) _ rfl
    have k0 := g4 0 _ rfl (by omega)
    have k1 := g4 1 _ rfl hr.1
    have k2 := g4 2 _ rfl hr.2.1
    have k3 := g4 3 _ rfl hr.2.2.1
    have k4 := g4 4 _ rfl hr.2.2.2
    simp only [List.length_cons, List.length_nil, Nat.reduceAdd, Nat.reduceMul, Nat.mul_zero] at f1 g1 g5 k0 k1 k2 k3 k4
    refine ⟨?_, key 72 _ (by omega) f2 (.inr rfl), keyM 72 _ g2 (.inr rfl), by omega, by omega⟩
    generalize strOfNums [72, 2] ++ wordsOf [(d.size : Int) + 12, t, s, ns, nr] ⟨#[]⟩ ++ d ++ more = S at *
    unfold getL
    have h72 : (72 : Int) = 72 := rfl
    rw [if_neg (by omega), g2, g3, if_neg (by simp), k0, k1, k2, k3, k4, if_neg (by omega), if_pos h72, if_neg (by omega), if_neg (by omega), if_pos h72, show ((d.size : Int) + 12).toNat = 12 + d.size by omega, g5]
end Go.Proofs.Ytcplhlokbnaabaa
