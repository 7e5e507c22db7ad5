/- The walk of MsgKinds. -/
import Derived.Test.YtcplhlokbnaabaaMsgL
import Derived.Test.YtcplhlokbnaabaaAvsIn
import Derived.Test.YtcplhlokbnaabaaNum
namespace Go.Proofs.Ytcplhlokbnaabaa
open Go.RowKit Go.ChangeShapes Go.WideShapes
set_option maxRecDepth 20000
set_option linter.unusedSimpArgs false
set_option linter.unusedVariables false

theorem kindOf_make (kind : Int) (l : List Av) : kindOf (numAv 0 kind 2 :: l) = kind % 65536 := by
  have h := num_be_aux kind 2 2 (Nat.le_refl _)
  simp only [kindOf, numAv, be_size]
  rw [if_neg (by simp), h]
  simp
/-- A slice in a block of its own, by its parts. -/
structure OB (w : World) (e : TypeId) (size g off n cap : Nat) (cur : Array Value) (xs : List Value) : Prop where
  blk : Blk w g e cur
  le : n ≤ cap
  cm : cap ≤ maxLen
  sz : off + cap * size ≤ cur.size
  len : xs.length = n * size
  rd : (cur.toList.drop off).take (n * size) = xs
section
variable {w w' : World} {e : TypeId} {size g off n cap : Nat} {cur : Array Value} {xs : List Value}
theorem OB.set (h : OB w e size g off n cap cur xs) (j : Nat) (u : Value) : OB (w.setCell ⟨g, off + j, none⟩ u) e size g off n cap (cur.setIfInBounds (off + j) u) (xs.set j u) :=
  ⟨h.blk.set_ (off + j) u, h.le, h.cm, by simpa using h.sz, by simpa using h.len, by
    rw [Array.toList_setIfInBounds, List.drop_set, if_neg (by omega), List.take_set, h.rd, Nat.add_sub_cancel_left]⟩
theorem OB.upd (h : OB w e size g off n cap cur xs) (hu : Upd [] w w') : OB w' e size g off n cap cur xs := ⟨h.blk.upd hu (by simp), h.le, h.cm, h.sz, h.len, h.rd⟩
theorem OB.own (h : OB w e size g off n cap cur xs) : Own w e size (.slice (some ⟨g, off, none⟩) n cap) n xs [g] := ⟨h.len, .inr ⟨g, off, cap, cur, rfl, rfl, h.blk, h.le, h.cm, h.sz, h.rd⟩⟩
theorem OB.cell (h : OB w e size g off n cap cur xs) (j : Nat) {u : Value} (hu : xs[j]? = some u) : w.cell? ⟨g, off + j, none⟩ = some u := by
  rw [h.blk.cell]
  rw [← h.rd, List.getElem?_take] at hu
  split at hu
  · simpa [List.getElem?_drop] using hu
  · cases hu
end
theorem OB.avs {w : World} {g off n cap : Nat} {cur : Array Value} {l : List Av} (h : OB w 27 5 g off n cap cur (avCells l)) (hn : n = l.length) : AvsAt w (.slice (some ⟨g, off, none⟩) n cap) l := by
  subst hn
  exact AvsAt.of_own h.own
theorem avCells_hide (a : Av) (l : List Av) (b : Bool) : (avCells (a :: l)).set 1 (.bool b) = avCells ({ a with hidden := b } :: l) := by
  simp [avCells, Av.cells]

set_option maxHeartbeats 4000000 in
theorem msgKinds_any (kind : Int) (l : List Av) (v : Value) (w : World) (hl : AvsAt w v l) (hs : ∀ t ∈ l, t.val.size ≤ 140737488355328) :
    Calls Try.prog 4 #[.int .i64 kind, v] w fun e w' => e = .returned (.bool true) ∧ Upd [] w w' := by
  obtain ⟨ao, cap, rfl, hc1, hc2, -⟩ := id hl
  have HL := Lib.hid hl
  have HS := Lib.hid hs
  clear hl hs
  by_cases t1 : LightA l = true
  rotate_left
  · have T1 : Hid (LightA l = false) := by show _ = _; simpa using t1
    clear t1
    go_enter Try.func4, Try.ntmps4
    go_wp2_with fail
    refine (lightA_any l _ _ HL.out HS.out).mono ?_
    rintro e w1 ⟨rfl, hu1⟩
    rw [T1.out]
    go_wp2_with fail
    refine (alive_any _).mono ?_
    rintro e w2 ⟨rfl, hu2⟩
    go_wp2_with fail
    go_ret
    exact ⟨rfl, hu1.trans hu2⟩
  have n1 := LightA_spec t1
  have T1 := Lib.hid t1
  clear t1
  obtain ⟨n, hn⟩ : ∃ n, n = l.length := ⟨_, rfl⟩
  rw [← hn] at n1 hc1
  rw [← hn]
  rw [← hn] at HL
  have HN := Lib.hid hn
  clear hn
  have K1 : Hid (kindOf ({ numAv 0 kind 2 with hidden := true } :: l) = -1) := by show _ = _; simp [kindOf]
  have K2 := Lib.hid (kindOf_make kind l)
  have K3 := Lib.hid (i64_and65535 kind)
  have Z1 : Hid (∀ a ∈ ({ numAv 0 kind 2 with hidden := true } :: l : List Av), a.val.size ≤ maxLen) := by
    intro a ha
    rcases List.mem_cons.1 ha with rfl | ha
    · simp [numAv, be_size, maxLen]
    · have := HS.out a ha
      simp only [maxLen]; omega
  have Z2 : Hid (∀ a ∈ (numAv 0 kind 2 :: l : List Av), a.val.size ≤ maxLen) := by
    intro a ha
    rcases List.mem_cons.1 ha with rfl | ha
    · simp [numAv, be_size, maxLen]
    · have := HS.out a ha
      simp only [maxLen]; omega
  go_enter Try.func4, Try.ntmps4
  go_wp2_with fail
  refine (lightA_any l _ _ HL.out HS.out).mono ?_
  rintro e w1 ⟨rfl, hu1⟩
  have HU1 := Lib.hid hu1
  clear hu1
  rw [T1.out]
  go_wp2_with fail
  refine (make_any kind l _ _ (HL.out.upd HU1.out) (by rw [← HN.out]; omega)).mono ?_
  rintro e w2 ⟨u, own, rfl, ho, hfr, hu2⟩
  have HU2 := Lib.hid (HU1.out.trans hu2)
  rw [← HN.out] at ho
  obtain ⟨hlen, ⟨_, h0, _⟩ | ⟨g, off, cap2, cur, rfl, rfl, hb, hc, hcm, hcs, hx⟩⟩ := ho
  · omega
  have hg : w.heap.size ≤ g := by
    have h1 := HU1.out.size
    have h2 := hfr g (by simp)
    omega
  have HA0 : Hid (OB w2 27 5 g off (1 + n) cap2 cur (avCells (numAv 0 kind 2 :: l))) := ⟨hb, hc, hcm, hcs, hlen, hx⟩
  clear hfr hb hlen hx hcs hu2
  have HNL : Hid (1 + n = (numAv 0 kind 2 :: l : List Av).length) := by show _ = _; rw [List.length_cons, ← HN.out, Nat.add_comm]
  have f1 := HA0.out.blk.frozen (off + 1)
  have r1 : w2.cell? ⟨g, off + 1, none⟩ = some (.bool false) := HA0.out.cell 1 rfl
  simp only [maxLen] at hcm
  go_wp2_with fail
  have HA1 : Hid (OB (w2.setCell ⟨g, off + 1, none⟩ (.bool true)) 27 5 g off (1 + n) cap2 (cur.setIfInBounds (off + 1) (.bool true)) (avCells ({ numAv 0 kind 2 with hidden := true } :: l))) := by
    have h := HA0.out.set 1 (.bool true)
    rw [avCells_hide] at h
    exact h
  have HU3 : Hid (Upd [] w (w2.setCell ⟨g, off + 1, none⟩ (.bool true))) := HU2.out.setCell _ (.inr hg)
  clear f1 r1
  generalize hwA : w2.setCell ⟨g, off + 1, none⟩ (.bool true) = wA at *
  clear hwA
  refine (kind_any 0 0 0 0 _ _ _ (HA1.out.avs (by rw [HNL.out]; rfl)) Z1.out).mono ?_
  rintro e w3 ⟨rfl, hu3⟩
  have HA2 := Lib.hid (HA1.out.upd hu3)
  have HU4 := Lib.hid (HU3.out.trans hu3)
  rw [K1.out]
  clear hu3
  have f1 := HA2.out.blk.frozen (off + 1)
  have r1 : w3.cell? ⟨g, off + 1, none⟩ = some (.bool true) := HA2.out.cell 1 rfl
  go_wp2_with fail
  have HA3 : Hid (OB (w3.setCell ⟨g, off + 1, none⟩ (.bool false)) 27 5 g off (1 + n) cap2 ((cur.setIfInBounds (off + 1) (.bool true)).setIfInBounds (off + 1) (.bool false)) (avCells (numAv 0 kind 2 :: l))) := by
    have h := HA2.out.set 1 (.bool false)
    rw [avCells_hide] at h
    exact h
  have HU5 : Hid (Upd [] w (w3.setCell ⟨g, off + 1, none⟩ (.bool false))) := HU4.out.setCell _ (.inr hg)
  clear f1 r1
  generalize hwB : w3.setCell ⟨g, off + 1, none⟩ (.bool false) = wB at *
  clear hwB
  refine (alive_any _).mono ?_
  rintro e w4 ⟨rfl, hu4⟩
  have HA4 := Lib.hid (HA3.out.upd hu4)
  have HU6 := Lib.hid (HU5.out.trans hu4)
  clear hu4
  go_wp2_with fail
  refine (kind_any 0 0 0 0 _ _ _ (HA4.out.avs HNL.out) Z2.out).mono ?_
  rintro e w5 ⟨rfl, hu5⟩
  have HA5 := Lib.hid (HA4.out.upd hu5)
  have HU7 := Lib.hid (HU6.out.trans hu5)
  clear hu5
  rw [K2.out]
  have k3 := K3.out
  have HD : Hid (AvsAt w5 (.slice (some (if cap2 = 1 then ⟨g, off, none⟩ else ⟨g, off + 5, none⟩)) n (cap2 - 1)) l) := by
    show AvsAt _ _ _
    have h := avs_drop1 (HA5.out.avs HNL.out) (by rw [← HNL.out]; omega)
    rw [show 1 + n - 1 = n by omega, add5] at h
    exact h
  have hk0 : Hid (kindOf [] = -2) := rfl
  have hc0 : Hid (checkOf [] = 0) := rfl
  go_wp2_with fail
  case inl h =>
    subst h
    refine (same_av l l _ _ _ (by first | exact HD.out | (have h9 := HD.out; rw [if_neg h] at h9; exact h9) | (have h9 := HD.out; rw [if_pos rfl] at h9; exact h9)) (HL.out.upd HU7.out)).mono ?_
    rintro e w6 ⟨rfl, hu6⟩
    have HU8 := Lib.hid (HU7.out.trans hu6)
    rw [show decide (l = l) = true by simp]
    clear hu6
    go_wp2_with fail
    refine (kind_any 0 0 0 0 _ [] _ (AvsAt.nil _) (by simp)).mono ?_
    rintro e w7 ⟨rfl, hu7⟩
    have HU9 := Lib.hid (HU8.out.trans hu7)
    rw [hk0.out]
    clear hu7
    go_wp2_with fail
    refine (check_any 0 0 0 0 _ [] _ (AvsAt.nil _) (by simp)).mono ?_
    rintro e w8 ⟨rfl, hu8⟩
    have HU10 := Lib.hid (HU9.out.trans hu8)
    rw [hc0.out]
    clear hu8
    go_wp2_with fail
    go_ret
    exact ⟨rfl, HU10.out⟩
  case inr h =>
    refine (same_av l l _ _ _ (by first | exact HD.out | (have h9 := HD.out; rw [if_neg h] at h9; exact h9) | (have h9 := HD.out; rw [if_pos rfl] at h9; exact h9)) (HL.out.upd HU7.out)).mono ?_
    rintro e w6 ⟨rfl, hu6⟩
    have HU8 := Lib.hid (HU7.out.trans hu6)
    rw [show decide (l = l) = true by simp]
    clear hu6
    go_wp2_with fail
    refine (kind_any 0 0 0 0 _ [] _ (AvsAt.nil _) (by simp)).mono ?_
    rintro e w7 ⟨rfl, hu7⟩
    have HU9 := Lib.hid (HU8.out.trans hu7)
    rw [hk0.out]
    clear hu7
    go_wp2_with fail
    refine (check_any 0 0 0 0 _ [] _ (AvsAt.nil _) (by simp)).mono ?_
    rintro e w8 ⟨rfl, hu8⟩
    have HU10 := Lib.hid (HU9.out.trans hu8)
    rw [hc0.out]
    clear hu8
    go_wp2_with fail
    go_ret
    exact ⟨rfl, HU10.out⟩

theorem msgKinds_walk {H : Type} {enc : TypeId × Value → H} {v1 : Value} {d0 d1 : DataW H} {p1 : List MemPlace} {W : World} {base : Nat}
    (kind : Int) (_ : (Lit.int .i64 kind).wf = true)
    (h1 : DataW.Trod enc Try.prog W 0 (fun _ => true) true 25 v1 d1 p1) (o1 : Value.okWide Try.prog W .any base 25 v1)
    (sz : (DataW.weightsEach Try.prog [3, 25] [d0, d1]).all (· ≤ reachBytes) = true) :
    Calls Try.prog 4 #[.int .i64 kind, v1] W fun e w' => e = .returned (.bool true) ∧ Below W.heap.size W w' := by
  obtain ⟨l, hl, hls⟩ := avs_in h1 o1 (wt_each sz (j := 1) rfl rfl)
  exact (msgKinds_any kind l v1 W hl hls).mono fun e w' ⟨he, hu⟩ => ⟨he, hu.below⟩
end Go.Proofs.Ytcplhlokbnaabaa
