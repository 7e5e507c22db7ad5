/- CallMeets: two ends that hear all that is said, as plain data. -/
import Derived.Test.YtihedbaomingpaaCallW
namespace Go.Proofs.Ytihedbaomingpaa
open Go.RowKit
set_option linter.unusedSimpArgs false
set_option linter.unusedVariables false
set_option maxRecDepth 100000

def mePick (odd : Bool) (q : K × K) : K := if odd then q.1 else q.2
def mePut (odd : Bool) (q : K × K) (k : K) : K × K := if odd then (k, q.2) else (q.1, k)
/-- One message is taken by the end whose turn it is. -/
def meTake (odd : Bool) (s : (K × K) × List Sy) (m : Sy) : (K × K) × List Sy := (mePut odd s.1 ((mePick odd s.1).take m.2).1, s.2 ++ ((mePick odd s.1).take m.2).2)
def meIn (odd : Bool) (q : K × K) (l : List Sy) (k : Nat) : (K × K) × List Sy := (l.take k).foldl (meTake odd) (q, [])
def oddAt (i : Nat) : Bool := decide (i % 2 = 1)
/-- The two ends and what is under way ahead of round i. -/
def meAt (q0 : K × K) (l0 : List Sy) : Nat → (K × K) × List Sy
  | 0 => (q0, l0)
  | i + 1 => meIn (oddAt i) (meAt q0 l0 i).1 (meAt q0 l0 i).2 (meAt q0 l0 i).2.length
def meN (q0 : K × K) (l0 : List Sy) : Nat → Nat
  | 0 => 0
  | i + 1 => meN q0 l0 i + (meAt q0 l0 i).2.length
/-- What the walk asks for. -/
structure MeOk (q0 : K × K) (l0 : List Sy) : Prop where
  nil : ∀ i k, i < 4 → k < (meAt q0 l0 i).2.length → (meIn (oddAt i) (meAt q0 l0 i).1 (meAt q0 l0 i).2 k).2 = []
  ok : ∀ i k, i < 4 → k < (meAt q0 l0 i).2.length → (mePick (oddAt i) (meIn (oddAt i) (meAt q0 l0 i).1 (meAt q0 l0 i).2 k).1).ok
  msg : ∀ (i k : Nat) (m : Sy), i < 4 → (meAt q0 l0 i).2[k]? = some m → m.2.length ≤ 1000000 ∧ ∀ a ∈ m.2, a.val.size ≤ maxLen
  small : ∀ i, i ≤ 4 → meN q0 l0 i ≤ 100 ∧ (meAt q0 l0 i).2.length ≤ 100
theorem meIn_succ (odd : Bool) (q : K × K) (l : List Sy) (k : Nat) {m : Sy} (h : l[k]? = some m) : meIn odd q l (k + 1) = meTake odd (meIn odd q l k) m := by
  unfold meIn
  rw [List.take_add_one, h]
  simp [List.foldl_append]

/-! ### the lists and the ends -/
def meO (x : Int) (out : Bool) : List Av := [numAv 0 (kindFor out 1) 2, numAv 14 x 2, numAv 15 1 4]
def meR (y : Int) (out : Bool) : List Av := [numAv 0 (kindFor out 2) 2, numAv 14 y 2]
def meC (out : Bool) (wl : List Av) : List Av := numAv 0 (kindFor out 3) 2 :: numAv 24 10000000 4 :: numAv 19 1 4 :: wl
def meA1 (x : Int) (out : Bool) (wl : List Av) : K := ⟨x, 1, 0, out, true, 1, wl, [], 0, 0⟩
def meB0 (y : Int) (out : Bool) (wl : List Av) : K := ⟨y, 2, 0, out, true, 0, wl, [], 0, 0⟩
theorem me_open (x : Int) (out : Bool) (wl : List Av) : ({ K.new x 1 out with with_ := wl } : K).openC = (meA1 x out wl, [(0, meO x out)]) := by
  simp [K.openC, K.new, K.say, K.own, meO, meA1]
theorem me_checkO (x : Int) (out : Bool) : checkOf (meO x out) = 0 := by
  have h2 : avpLen 14 = 2 := by decide +kernel
  have h3 : avpLen 15 = 4 := by decide +kernel
  have hb : badOf [numAv 14 x 2, numAv 15 1 4] = 0 := by simp [badOf, wrongAv, numAv, h2, h3, be_size]
  have hn : needOf (meO x out) [14, 15] = 0 := by simp [needOf, meO, find_num, find_skip]
  have : checkOf (meO x out) = match needsOf (kindOf (meO x out)) with
    | none => 40
    | some ns => if badOf [numAv 14 x 2, numAv 15 1 4] = 0 then needOf (meO x out) ns else badOf [numAv 14 x 2, numAv 15 1 4] := rfl
  have hk : kindOf (meO x out) = kindFor out 1 := te_two _ _ (by cases out <;> decide)
  have h1 : needsOf (kindFor out 1) = some [14, 15] := by cases out <;> decide +kernel
  rw [this, hk, h1]
  simp only [hb, hn, if_true]
theorem me_checkR (y : Int) (out : Bool) : checkOf (meR y out) = 0 := by
  have h2 : avpLen 14 = 2 := by decide +kernel
  have hb : badOf [numAv 14 y 2] = 0 := by simp [badOf, wrongAv, numAv, h2, be_size]
  have hn : needOf (meR y out) [14] = 0 := by simp [needOf, meR, find_num, find_skip]
  have : checkOf (meR y out) = match needsOf (kindOf (meR y out)) with
    | none => 40
    | some ns => if badOf [numAv 14 y 2] = 0 then needOf (meR y out) ns else badOf [numAv 14 y 2] := rfl
  have hk : kindOf (meR y out) = kindFor out 2 := te_two _ _ (by cases out <;> decide)
  have h1 : needsOf (kindFor out 2) = some [14] := by cases out <;> decide +kernel
  rw [this, hk, h1]
  simp only [hb, hn, if_true]
theorem badOf_foreign (l : List Av) (h : ∀ a ∈ l, a.must = false ∧ a.vendor ≠ 0) : badOf l = 0 := by
  induction l with
  | nil => rfl
  | cons a l ih =>
    obtain ⟨h1, h2⟩ := h a (List.mem_cons_self ..)
    have hw : wrongAv a = 0 := by simp [wrongAv, h1, h2]
    rw [badOf, if_pos hw]
    exact ih fun b hb => h b (List.mem_cons_of_mem _ hb)
theorem me_checkC (out : Bool) (wl : List Av) (h : ∀ a ∈ wl, a.must = false ∧ a.vendor ≠ 0) : checkOf (meC out wl) = 0 := by
  have h2 : avpLen 24 = 4 := by decide +kernel
  have h3 : avpLen 19 = 4 := by decide +kernel
  have hb : badOf (numAv 24 10000000 4 :: numAv 19 1 4 :: wl) = 0 := by
    have hf := badOf_foreign wl h
    simp [badOf, wrongAv, numAv, h2, h3, be_size, hf]
  have hn : needOf (meC out wl) [24, 19] = 0 := by simp [needOf, meC, find_num, find_skip]
  have : checkOf (meC out wl) = match needsOf (kindOf (meC out wl)) with
    | none => 40
    | some ns => if badOf (numAv 24 10000000 4 :: numAv 19 1 4 :: wl) = 0 then needOf (meC out wl) ns else badOf (numAv 24 10000000 4 :: numAv 19 1 4 :: wl) := rfl
  have hk : kindOf (meC out wl) = kindFor out 3 := te_two _ _ (by cases out <;> decide)
  have h1 : needsOf (kindFor out 3) = some [24, 19] := by cases out <;> decide +kernel
  rw [this, hk, h1]
  simp only [hb, hn, if_true]
theorem me_numO (x : Int) (out : Bool) (h : 1 ≤ x ∧ x ≤ 65535) : numberAv (meO x out) 14 = (x, true) := te_num x _ [] (by omega) (by rw [meO, find_skip _ _ _ _ _ (by decide), find_num])
theorem me_numR (y : Int) (out : Bool) (h : 1 ≤ y ∧ y ≤ 65535) : numberAv (meR y out) 14 = (y, true) := te_num y _ [] (by omega) (by rw [meR, find_skip _ _ _ _ _ (by decide), find_num])
theorem me_kO (x : Int) (out : Bool) : kindOf (meO x out) = kindFor out 1 := te_two _ _ (by cases out <;> decide)
theorem me_kR (y : Int) (out : Bool) : kindOf (meR y out) = kindFor out 2 := te_two _ _ (by cases out <;> decide)
theorem me_kC (out : Bool) (wl : List Av) : kindOf (meC out wl) = kindFor out 3 := te_two _ _ (by cases out <;> decide)
theorem me_role (out : Bool) : roleOf (kindFor out 1) out = 1 ∧ roleOf (kindFor out 2) out = 2 ∧ roleOf (kindFor out 3) out = 3 ∧ kindFor out 1 ≠ 14 ∧ kindFor out 2 ≠ 14 ∧ kindFor out 3 ≠ 14 := by cases out <;> decide
/-- The end that hears the first message. -/
def meB1 (x y : Int) (out : Bool) (wl : List Av) : K := ⟨y, 2, x, out, true, if out then 3 else 2, wl, [], 0, 0⟩
theorem me_b1 (x y : Int) (out : Bool) (wl : List Av) (h : 1 ≤ x ∧ x ≤ 65535) : (meB0 y out wl).take (meO x out) = (meB1 x y out wl, if out then [(x, meR y out), (x, meC out wl)] else [(x, meR y out)]) := by
  obtain ⟨r1, r2, r3, r4, r5, r6⟩ := me_role out
  have h0 : x ≠ 0 := by omega
  cases out <;> simp [K.take, meB0, me_kO, r1, r4, me_checkO, K.handle, K.named, K.named1, me_numO x _ h, K.say, K.own, K.conn, h0, meB1, meR, meC]
/-- The end that began, behind the reply. -/
def meA2 (x y : Int) (out : Bool) (wl : List Av) : K := ⟨x, 1, y, out, true, if out then 2 else 3, wl, [], 0, 0⟩
theorem me_a2 (x y : Int) (out : Bool) (wl : List Av) (h : 1 ≤ y ∧ y ≤ 65535) : (meA1 x out wl).take (meR y out) = (meA2 x y out wl, if out then [] else [(y, meC out wl)]) := by
  obtain ⟨r1, r2, r3, r4, r5, r6⟩ := me_role out
  have h0 : y ≠ 0 := by omega
  cases out <;> simp [K.take, meA1, me_kR, r2, r5, me_checkR, K.handle, K.named, K.named1, me_numR y _ h, K.say, K.own, K.conn, h0, meA2, meC]
def meA3 (x y : Int) (wl : List Av) : K := ⟨x, 1, y, true, true, 3, wl, meC true wl, 0, 0⟩
theorem me_a3 (x y : Int) (wl : List Av) (h : ∀ a ∈ wl, a.must = false ∧ a.vendor ≠ 0) : (meA2 x y true wl).take (meC true wl) = (meA3 x y wl, []) := by
  obtain ⟨r1, r2, r3, r4, r5, r6⟩ := me_role true
  simp [K.take, meA2, me_kC, r3, r6, me_checkC true wl h, K.handle, meA3]
def meB2 (x y : Int) (wl : List Av) : K := ⟨y, 2, x, false, true, 3, wl, meC false wl, 0, 0⟩
theorem me_b2 (x y : Int) (wl : List Av) (h : ∀ a ∈ wl, a.must = false ∧ a.vendor ≠ 0) : (meB1 x y false wl).take (meC false wl) = (meB2 x y wl, []) := by
  obtain ⟨r1, r2, r3, r4, r5, r6⟩ := me_role false
  simp [K.take, meB1, me_kC, r3, r6, me_checkC false wl h, K.handle, meB2]
theorem me_tab_false (x y : Int) (wl : List Av) (hx : 1 ≤ x ∧ x ≤ 65535) (hy : 1 ≤ y ∧ y ≤ 65535) (h : ∀ a ∈ wl, a.must = false ∧ a.vendor ≠ 0) :
    meAt (meA1 x false wl, meB0 y false wl) [(0, meO x false)] 0 = ((meA1 x false wl, meB0 y false wl), [(0, meO x false)]) ∧
    meAt (meA1 x false wl, meB0 y false wl) [(0, meO x false)] 1 = ((meA1 x false wl, meB1 x y false wl), [(x, meR y false)]) ∧
    meAt (meA1 x false wl, meB0 y false wl) [(0, meO x false)] 2 = ((meA2 x y false wl, meB1 x y false wl), [(y, meC false wl)]) ∧
    meAt (meA1 x false wl, meB0 y false wl) [(0, meO x false)] 3 = ((meA2 x y false wl, meB2 x y wl), []) ∧
    meAt (meA1 x false wl, meB0 y false wl) [(0, meO x false)] 4 = ((meA2 x y false wl, meB2 x y wl), []) := by
  have e1 : meAt (meA1 x false wl, meB0 y false wl) [(0, meO x false)] 1 = ((meA1 x false wl, meB1 x y false wl), [(x, meR y false)]) := by
    simp [meAt, meIn, meTake, mePick, mePut, oddAt, me_b1 x y false wl hx]
  have e2 : meAt (meA1 x false wl, meB0 y false wl) [(0, meO x false)] 2 = ((meA2 x y false wl, meB1 x y false wl), [(y, meC false wl)]) := by
    rw [meAt, e1]
    simp [meIn, meTake, mePick, mePut, oddAt, me_a2 x y false wl hy]
  have e3 : meAt (meA1 x false wl, meB0 y false wl) [(0, meO x false)] 3 = ((meA2 x y false wl, meB2 x y wl), []) := by
    rw [meAt, e2]
    simp [meIn, meTake, mePick, mePut, oddAt, me_b2 x y wl h]
  refine ⟨rfl, e1, e2, e3, ?_⟩
  rw [meAt, e3]
  simp [meIn]
theorem me_tab_true (x y : Int) (wl : List Av) (hx : 1 ≤ x ∧ x ≤ 65535) (hy : 1 ≤ y ∧ y ≤ 65535) (h : ∀ a ∈ wl, a.must = false ∧ a.vendor ≠ 0) :
    meAt (meA1 x true wl, meB0 y true wl) [(0, meO x true)] 0 = ((meA1 x true wl, meB0 y true wl), [(0, meO x true)]) ∧
    meAt (meA1 x true wl, meB0 y true wl) [(0, meO x true)] 1 = ((meA1 x true wl, meB1 x y true wl), [(x, meR y true), (x, meC true wl)]) ∧
    meAt (meA1 x true wl, meB0 y true wl) [(0, meO x true)] 2 = ((meA3 x y wl, meB1 x y true wl), []) ∧
    meAt (meA1 x true wl, meB0 y true wl) [(0, meO x true)] 3 = ((meA3 x y wl, meB1 x y true wl), []) ∧
    meAt (meA1 x true wl, meB0 y true wl) [(0, meO x true)] 4 = ((meA3 x y wl, meB1 x y true wl), []) := by
  have e1 : meAt (meA1 x true wl, meB0 y true wl) [(0, meO x true)] 1 = ((meA1 x true wl, meB1 x y true wl), [(x, meR y true), (x, meC true wl)]) := by
    simp [meAt, meIn, meTake, mePick, mePut, oddAt, me_b1 x y true wl hx]
  have e2 : meAt (meA1 x true wl, meB0 y true wl) [(0, meO x true)] 2 = ((meA3 x y wl, meB1 x y true wl), []) := by
    rw [meAt, e1]
    simp [meIn, meTake, mePick, mePut, oddAt, me_a2 x y true wl hy, me_a3 x y wl h]
  have e3 : meAt (meA1 x true wl, meB0 y true wl) [(0, meO x true)] 3 = ((meA3 x y wl, meB1 x y true wl), []) := by
    rw [meAt, e2]
    simp [meIn]
  refine ⟨rfl, e1, e2, e3, ?_⟩
  rw [meAt, e3]
  simp [meIn]
theorem K.fresh_ok (k : K) (h : k.made = true) (h1 : k.wens = 0) (h2 : k.slis = 0) (h3 : k.got = []) (h4 : k.with_.length ≤ 1000) : k.ok :=
  ⟨h, by rw [h1]; decide, by rw [h1]; decide, by rw [h2]; decide, by rw [h2]; decide, h4, by rw [h3]; simp⟩
theorem meO_ok (x : Int) (out : Bool) : (meO x out).length ≤ 1000000 ∧ ∀ a ∈ meO x out, a.val.size ≤ maxLen := by
  refine ⟨by simp [meO], fun a ha => ?_⟩
  simp only [meO, List.mem_cons, List.not_mem_nil, or_false] at ha
  rcases ha with rfl | rfl | rfl <;> exact numAv_small _ _ _ (by omega)
theorem meR_ok (x : Int) (out : Bool) : (meR x out).length ≤ 1000000 ∧ ∀ a ∈ meR x out, a.val.size ≤ maxLen := by
  refine ⟨by simp [meR], fun a ha => ?_⟩
  simp only [meR, List.mem_cons, List.not_mem_nil, or_false] at ha
  rcases ha with rfl | rfl <;> exact numAv_small _ _ _ (by omega)
theorem meC_ok (out : Bool) (wl : List Av) (hl : wl.length ≤ 50) (hs : ∀ a ∈ wl, a.val.size ≤ 140737488355328) : (meC out wl).length ≤ 1000000 ∧ ∀ a ∈ meC out wl, a.val.size ≤ maxLen := by
  refine ⟨by simp [meC]; omega, fun a ha => ?_⟩
  simp only [meC, List.mem_cons] at ha
  rcases ha with rfl | rfl | rfl | ha
  · exact numAv_small _ _ _ (by omega)
  · exact numAv_small _ _ _ (by omega)
  · exact numAv_small _ _ _ (by omega)
  · exact Nat.le_trans (hs a ha) (by decide)
theorem meOk_false (x y : Int) (wl : List Av) (hx : 1 ≤ x ∧ x ≤ 65535) (hy : 1 ≤ y ∧ y ≤ 65535) (h : ∀ a ∈ wl, a.must = false ∧ a.vendor ≠ 0) (hl : wl.length ≤ 50) (hs : ∀ a ∈ wl, a.val.size ≤ 140737488355328) :
    MeOk (meA1 x false wl, meB0 y false wl) [(0, meO x false)] := by
  obtain ⟨t0, t1, t2, t3, t4⟩ := me_tab_false x y wl hx hy h
  have c4 : ∀ i, i < 4 → i = 0 ∨ i = 1 ∨ i = 2 ∨ i = 3 := by omega
  constructor
  · intro i k hi hk
    rcases c4 i hi with rfl | rfl | rfl | rfl
    · rw [t0] at hk ⊢; simp at hk; subst hk; simp [meIn]
    · rw [t1] at hk ⊢; simp at hk; subst hk; simp [meIn]
    · rw [t2] at hk ⊢; simp at hk; subst hk; simp [meIn]
    · rw [t3] at hk; simp at hk
  · intro i k hi hk
    rcases c4 i hi with rfl | rfl | rfl | rfl
    · rw [t0] at hk ⊢; simp at hk; subst hk; exact K.fresh_ok _ rfl rfl rfl rfl (by show wl.length ≤ 1000; omega)
    · rw [t1] at hk ⊢; simp at hk; subst hk; exact K.fresh_ok _ rfl rfl rfl rfl (by show wl.length ≤ 1000; omega)
    · rw [t2] at hk ⊢; simp at hk; subst hk; exact K.fresh_ok _ rfl rfl rfl rfl (by show wl.length ≤ 1000; omega)
    · rw [t3] at hk; simp at hk
  · intro i k m hi hm
    rcases c4 i hi with rfl | rfl | rfl | rfl
    · rw [t0] at hm
      rcases k with _ | k <;> simp at hm
      subst hm; exact meO_ok _ _
    · rw [t1] at hm
      rcases k with _ | k <;> simp at hm
      subst hm; exact meR_ok _ _
    · rw [t2] at hm
      rcases k with _ | k <;> simp at hm
      subst hm; exact meC_ok _ _ hl hs
    · rw [t3] at hm; simp at hm
  · intro i hi
    have : i = 0 ∨ i = 1 ∨ i = 2 ∨ i = 3 ∨ i = 4 := by omega
    rcases this with rfl | rfl | rfl | rfl | rfl <;> simp [meN, t0, t1, t2, t3, t4]
theorem meOk_true (x y : Int) (wl : List Av) (hx : 1 ≤ x ∧ x ≤ 65535) (hy : 1 ≤ y ∧ y ≤ 65535) (h : ∀ a ∈ wl, a.must = false ∧ a.vendor ≠ 0) (hl : wl.length ≤ 50) (hs : ∀ a ∈ wl, a.val.size ≤ 140737488355328) :
    MeOk (meA1 x true wl, meB0 y true wl) [(0, meO x true)] := by
  obtain ⟨t0, t1, t2, t3, t4⟩ := me_tab_true x y wl hx hy h
  have c4 : ∀ i, i < 4 → i = 0 ∨ i = 1 ∨ i = 2 ∨ i = 3 := by omega
  have m1 : meIn (oddAt 1) (meA1 x true wl, meB1 x y true wl) [(x, meR y true), (x, meC true wl)] 1 = ((meA2 x y true wl, meB1 x y true wl), []) := by
    simp [meIn, meTake, mePick, mePut, oddAt, me_a2 x y true wl hy]
  have k2 : ∀ k, k < 2 → k = 0 ∨ k = 1 := by omega
  constructor
  · intro i k hi hk
    rcases c4 i hi with rfl | rfl | rfl | rfl
    · rw [t0] at hk ⊢; simp at hk; subst hk; simp [meIn]
    · rw [t1] at hk ⊢
      rcases k2 k hk with rfl | rfl
      · simp [meIn]
      · simp only [m1]
    · rw [t2] at hk; simp at hk
    · rw [t3] at hk; simp at hk
  · intro i k hi hk
    rcases c4 i hi with rfl | rfl | rfl | rfl
    · rw [t0] at hk ⊢; simp at hk; subst hk; exact K.fresh_ok _ rfl rfl rfl rfl (by show wl.length ≤ 1000; omega)
    · rw [t1] at hk ⊢
      rcases k2 k hk with rfl | rfl
      · exact K.fresh_ok _ rfl rfl rfl rfl (by show wl.length ≤ 1000; omega)
      · simp only [m1]
        exact K.fresh_ok _ rfl rfl rfl rfl (by show wl.length ≤ 1000; omega)
    · rw [t2] at hk; simp at hk
    · rw [t3] at hk; simp at hk
  · intro i k m hi hm
    rcases c4 i hi with rfl | rfl | rfl | rfl
    · rw [t0] at hm
      rcases k with _ | k <;> simp at hm
      subst hm; exact meO_ok _ _
    · rw [t1] at hm
      rcases k with _ | _ | k <;> simp at hm
      · subst hm; exact meR_ok _ _
      · subst hm; exact meC_ok _ _ hl hs
    · rw [t2] at hm; simp at hm
    · rw [t3] at hm; simp at hm
  · intro i hi
    have : i = 0 ∨ i = 1 ∨ i = 2 ∨ i = 3 ∨ i = 4 := by omega
    rcases this with rfl | rfl | rfl | rfl | rfl <;> simp [meN, t0, t1, t2, t3, t4]
end Go.Proofs.Ytihedbaomingpaa
