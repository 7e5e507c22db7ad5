/- The walk of chapter 21's TunnelBoth. -/
import Derived.Test.YtolfjfkkbhbbbaaGreatQTunLA
import Derived.Test.YtolfjfkkbhbbbaaGreatQTunBp
import Derived.Test.YtolfjfkkbhbbbaaGreatQRawIn
namespace Go.Proofs.YtolfjfkkbhbbbaaGreat
open Go.RowKit
set_option linter.unusedSimpArgs false
set_option linter.unusedVariables false
set_option maxRecDepth 100000

/-- Two ends, and blocks of others that they do not touch. -/
structure TwoF (w W : World) (pa pb : Nat) (a b : Tn) (F : List Nat) : Prop where
  ex : ∃ oa ob, TunAt W pa a oa ∧ TunAt W pb b ob ∧ (∀ k ∈ oa, k ∉ ob) ∧ (∀ k ∈ oa, w.heap.size ≤ k) ∧ (∀ k ∈ ob, w.heap.size ≤ k) ∧ (∀ k ∈ F, k ∉ oa ∧ k ∉ ob ∧ k < W.heap.size)
  u : Upd [] w W
/-- These blocks have not turned. -/
def Stay (F : List Nat) (W W' : World) : Prop := ∀ k ∈ F, W'.heap[k]? = W.heap[k]?
section
variable {w W W' : World} {pa pb : Nat} {a b : Tn} {F : List Nat}
theorem TwoF.two (h : TwoF w W pa pb a b F) : Two w W pa pb a b := by
  obtain ⟨⟨oa, ob, h1, h2, h3, h4, h5, -⟩, hu⟩ := h
  exact ⟨⟨oa, ob, h1, h2, h3, h4, h5⟩, hu⟩
theorem Two.none (h : Two w W pa pb a b) : TwoF w W pa pb a b [] := by
  obtain ⟨⟨oa, ob, h1, h2, h3, h4, h5⟩, hu⟩ := h
  exact ⟨⟨oa, ob, h1, h2, h3, h4, h5, by simp⟩, hu⟩
theorem TwoF.swap (h : TwoF w W pa pb a b F) : TwoF w W pb pa b a F := by
  obtain ⟨⟨oa, ob, h1, h2, h3, h4, h5, h6⟩, hu⟩ := h
  exact ⟨⟨ob, oa, h2, h1, fun k hk hk2 => h3 k hk2 hk, h5, h4, fun k hk => ⟨(h6 k hk).2.1, (h6 k hk).1, (h6 k hk).2.2⟩⟩, hu⟩
theorem TwoF.next {oa ob oa' : List Nat} {a' : Tn} (h1 : TunAt W pa a oa) (h2 : TunAt W pb b ob) (h3 : ∀ k ∈ oa, k ∉ ob) (h4 : ∀ k ∈ oa, w.heap.size ≤ k) (h5 : ∀ k ∈ ob, w.heap.size ≤ k) (h6 : ∀ k ∈ F, k ∉ oa ∧ k ∉ ob ∧ k < W.heap.size) (hu : Upd [] w W)
    (k1 : TunAt W' pa a' oa') (k2 : Grew W oa oa') (k3 : Upd oa W W') : TwoF w W' pa pb a' b F ∧ Stay F W W' ∧ ∀ k ∈ F, k ∉ oa' := by
  obtain ⟨z1, z2, z3, z4⟩ := Two.nextA h1 h2 h3 h4 h5 hu k1 k2 k3
  have hF : ∀ k ∈ F, k ∉ oa' := fun k hk hk2 => by
    rcases k2 k hk2 with h | h
    · exact (h6 k hk).1 h
    · have := (h6 k hk).2.2; omega
  exact ⟨⟨⟨oa', ob, k1, z1, z2, z3, h5, fun k hk => ⟨hF k hk, (h6 k hk).2.1, Nat.lt_of_lt_of_le (h6 k hk).2.2 k3.size⟩⟩, z4⟩, fun k hk => k3.block k (h6 k hk).2.2 (h6 k hk).1, hF⟩
theorem TwoF.outA (h : TwoF w W pa pb a b F) {N : Nat} (hg : a.Good N) {s : ByteArray} {a' : Tn} (ho : a.out = (a', [s])) :
    Calls Tryz.prog 20 #[.pointer (some ⟨pa, 0, none⟩)] W fun e w' => (∃ g off cap, e = .returned (.slice (some ⟨g, off, none⟩) 1 cap) ∧ 1 ≤ cap ∧ TwoF w w' pa pb a' b (g :: F) ∧ w'.cell? ⟨g, off, none⟩ = some (.string s)) ∧ Stay F W w' := by
  obtain ⟨⟨oa, ob, h1, h2, h3, h4, h5, h6⟩, hu⟩ := h
  refine (tout_any h1 hg.id hg.waits hg.flies).mono ?_
  rw [ho]
  rintro e w' ⟨⟨v, ol, oa', rfl, hw, hn, hd, k1, k2⟩, k3⟩
  obtain ⟨⟨⟨ox, ob', m1, m2, m3, m4, m5, m6⟩, mu⟩, st, hF⟩ := TwoF.next h1 h2 h3 h4 h5 h6 hu k1 k2 k3
  obtain ⟨g, off, cap, rfl, rfl, hc, -, hcell⟩ := hw.form (by simp)
  refine ⟨⟨g, off, cap, rfl, hc, ?_, by have := hcell 0 (.string s) rfl; simpa using this⟩, st⟩
  obtain ⟨z1, z2, z3, z4⟩ := Two.nextA h1 h2 h3 h4 h5 hu k1 k2 k3
  refine ⟨⟨oa', ob, k1, z1, z2, z3, h5, fun k hk => ?_⟩, z4⟩
  rcases List.mem_cons.1 hk with rfl | hk
  · exact ⟨hd k (by simp), fun hk2 => by have := hn k (by simp); have := h2.lt k hk2; omega, hw.lt k (by simp)⟩
  · exact ⟨hF k hk, (h6 k hk).2.1, Nat.lt_of_lt_of_le (h6 k hk).2.2 k3.size⟩
theorem TwoF.takeA (h : TwoF w W pa pb a b F) (s : ByteArray) (hs : s.size ≤ 400000) {N : Nat} (hg : a.Good N) :
    Calls Tryz.prog 21 #[.pointer (some ⟨pa, 0, none⟩), .string s] W fun e w' => (∃ u, e = .returned u) ∧ TwoF w w' pa pb (a.take s).1 b F ∧ Stay F W w' := by
  obtain ⟨⟨oa, ob, h1, h2, h3, h4, h5, h6⟩, hu⟩ := h
  refine (ttake_any h1 s hs hg.secret hg.asked (by have := hg.asks; omega) hg.nw).mono ?_
  rintro e w' ⟨⟨u, oa', rfl, k1, k2, -⟩, k3⟩
  obtain ⟨q1, q2, -⟩ := TwoF.next h1 h2 h3 h4 h5 h6 hu k1 k2 k3
  exact ⟨⟨u, rfl⟩, q1, q2⟩
theorem Stay.cell {g off : Nat} {v : Value} (h : Stay F W W') (hg : g ∈ F) (hc : W.cell? ⟨g, off, none⟩ = some v) : W'.cell? ⟨g, off, none⟩ = some v := by
  rw [World.cell?_of_block (w := W) (h g hg)]; exact hc
end
/-- The ends of TunnelBoth. -/
def bothA (l : List Int) : Tn := Tn.new ⟨#[97]⟩ ⟨#[115]⟩ 5 4 10 3 3 20 ⟨l, 0⟩
def bothB (l : List Int) : Tn := Tn.new ⟨#[98]⟩ ⟨#[115]⟩ 9 4 10 3 3 20 ⟨l, 0⟩
theorem bothA_start (l : List Int) : Start (bothA l) := ⟨rfl, rfl, rfl, by show ByteArray.size ⟨#[97]⟩ ≤ 40; decide, ⟨by show (1 : Int) ≤ 5; decide, by show (5 : Int) < _; decide⟩, rfl⟩
theorem bothB_start (l : List Int) : Start (bothB l) := ⟨rfl, rfl, rfl, by show ByteArray.size ⟨#[98]⟩ ≤ 40; decide, ⟨by show (1 : Int) ≤ 9; decide, by show (9 : Int) < _; decide⟩, rfl⟩
theorem bothA_good (l : List Int) : (bothA l).Good 30000 := Tn.new_good _ _ _ _ _ _ _ _ _ (by decide) (by decide) (by decide) law_ok rfl (Nat.le_refl _)
theorem bothB_good (l : List Int) : (bothB l).Good 30000 := Tn.new_good _ _ _ _ _ _ _ _ _ (by decide) (by decide) (by decide) law_ok rfl (Nat.le_refl _)
/-- What the two are when each has heard the other's opening, and what they come to. -/
structure BothOk (x y : ByteArray) (a b : Tn) : Prop where
  eq : x = y → Dead2 (meetN 4 (a, b))
  ne : x ≠ y → (meetN 4 (a, b)).1.state = 3 ∧ (meetN 4 (a, b)).2.state = 3 ∧ (meetN 4 (a, b)).1.cid = (meetN 4 (a, b)).2.id ∧ (meetN 4 (a, b)).1.id = (meetN 4 (a, b)).2.cid
theorem both_ok (l m : List Int) : BothOk (Tp.str 8 ⟨l, 0⟩) (Tp.str 8 ⟨m, 0⟩)
    ((O2 (bothA l)).take (sayM 0 ⟨0, 0, bodyC 0 (L1 (bothB m))⟩)).1 ((O2 (bothB m)).take (sayM 0 ⟨0, 0, bodyC 0 (L1 (bothA l))⟩)).1 := by
  have hA := bothA_start l
  have hB := bothB_start m
  have t1 := tie_take hA hB rfl rfl rfl
  have t2 := tie_take hB hA rfl rfl rfl
  have eA : (bothA l).tape.str 8 = Tp.str 8 ⟨l, 0⟩ := rfl
  have eB : (bothB m).tape.str 8 = Tp.str 8 ⟨m, 0⟩ := rfl
  have sA : (Tp.str 8 ⟨l, 0⟩).size = 8 := Tp.str_size _ _
  have sB : (Tp.str 8 ⟨m, 0⟩).size = 8 := Tp.str_size _ _
  have yA := yielded_start hA rfl rfl rfl
  have yB := yielded_start hB rfl rfl rfl
  have kBA : Know (bothB m) (yielded (bothA l)) := know_same (by simp only [yielded, Tn.anew, O2, openC, Tn.open1]; rfl)
  have kAB : Know (bothA l) (yielded (bothB m)) := know_same (by simp only [yielded, Tn.anew, O2, openC, Tn.open1]; rfl)
  have iA : (yielded (bothA l)).cid = 5 := by simp only [yielded, Tn.anew, O2, openC, Tn.open1]; rfl
  have iB : (yielded (bothB m)).cid = 9 := by simp only [yielded, Tn.anew, O2, openC, Tn.open1]; rfl
  rw [eA, eB] at t1 t2
  generalize Tp.str 8 ⟨l, 0⟩ = x at *
  generalize Tp.str 8 ⟨m, 0⟩ = y at *
  rw [t1, t2]
  clear t1 t2 eA eB
  by_cases h1 : tieOf x < tieOf y
  · have h2 : ¬ tieOf y < tieOf x := by omega
    have h3 : ¬ tieOf x = tieOf y := by omega
    rw [if_pos h1, if_neg h2, if_neg h3, opened1_good yB kAB.1]
    dsimp only
    have e := both_first hA yB kAB
    refine ⟨fun h => absurd (congrArg tieOf h) h3, fun _ => ?_⟩
    rw [e]
    exact ⟨rfl, rfl, rfl, rfl⟩
  · by_cases h2 : tieOf y < tieOf x
    · have h3 : ¬ tieOf y = tieOf x := by omega
      rw [if_neg h1, if_neg h3, if_pos h2, opened1_good yA kBA.1]
      dsimp only
      have e := both_second hB yA kBA
      refine ⟨fun h => absurd (congrArg tieOf h).symm h3, fun _ => ?_⟩
      rw [e]
      exact ⟨rfl, rfl, rfl, rfl⟩
    · have h3 : tieOf x = tieOf y := by omega
      rw [if_neg h1, if_pos h3.symm, if_neg h2, if_pos h3]
      dsimp only
      exact ⟨fun _ => dead_meetN ⟨rfl, rfl⟩ 4, fun h => absurd (tieOf_inj sA sB h3) h⟩
end Go.Proofs.YtolfjfkkbhbbbaaGreat
