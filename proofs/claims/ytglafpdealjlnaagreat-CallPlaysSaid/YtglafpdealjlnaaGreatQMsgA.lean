/- The walks of msg.num, Kind, known, wrong, Make. The walks of msg.Kind, wrong. The walk of msg.Check. The walks of msg.Make, IsCtl. -/
import Derived.OwnWalk
import Derived.Test.YtglafpdealjlnaaGreatQLen
import Derived.Test.YtglafpdealjlnaaGreatQRely
import Derived.Test.YtglafpdealjlnaaGreatQLib
namespace Go.Proofs.YtglafpdealjlnaaGreat
open Go.RowKit
set_option maxRecDepth 100000
set_option linter.unusedSimpArgs false
set_option linter.unusedVariables false

theorem msgNum_any (s : ByteArray) (i : Nat) (hs : s.size ≤ maxLen) (hv : i + 2 ≤ s.size) (w : World) :
    Calls Tryz.prog 86 #[.string s, .int .i64 i] w fun e w' => e = .returned (.int .i64 (num s i 2)) ∧ w = w' := by
  have HS := Lib.hid (And.intro hs hv)
  clear hs hv
  go_enter Tryz.func86, Tryz.ntmps86
  go_wp2_with fail
  refine (wireGet_ok s i 2 (by omega) HS.out.1 HS.out.2 _).mono ?_
  rintro e w1 ⟨rfl, rfl⟩
  go_wp2_with fail
  go_ret
  exact ⟨rfl, rfl⟩

/-- A slice of ints. -/
def IntsAt (w : World) (v : Value) (l : List Int) : Prop :=
  ∃ ao cap, v = .slice ao l.length cap ∧ l.length ≤ cap ∧ cap ≤ maxLen ∧ ∀ i a, l[i]? = some a → ∃ q, ao = some q ∧ w.cell? (q.add i) = some (.int .i64 a)
theorem IntsAt.upd {w w' : World} {v : Value} {l : List Int} (h : IntsAt w v l) (hu : Upd [] w w') : IntsAt w' v l := by
  obtain ⟨ao, cap, rfl, h1, h2, h3⟩ := h
  refine ⟨ao, cap, rfl, h1, h2, fun i t ht => ?_⟩
  obtain ⟨q, rfl, k⟩ := h3 i t ht
  exact ⟨q, rfl, (hu.cell (cell_lt' k) (by simp)).trans k⟩
theorem IntsAt.nil (w : World) : IntsAt w (.slice none 0 0) [] := ⟨none, 0, rfl, by simp, by simp [maxLen], by simp⟩
theorem IntsAt.of_blk {w : World} {g : Nat} {t : TypeId} {l : List Int} (h : Blk w g t (l.map (Value.int .i64)).toArray) (hl : l.length ≤ maxLen) : IntsAt w (.slice (some ⟨g, 0, none⟩) l.length l.length) l := by
  refine ⟨_, _, rfl, Nat.le_refl _, hl, fun i x hx => ⟨_, rfl, ?_⟩⟩
  rw [add_plain', Nat.zero_add, h.cell]
  simp [hx]

def needsOf (kind : Int) : Option (List Int) :=
  if kind = 1 ∨ kind = 2 then some [2, 3, 7, 9] else if kind = 4 then some [9, 1] else if kind = 10 ∨ kind = 7 then some [14, 15] else if kind = 11 ∨ kind = 8 then some [14]
  else if kind = 12 ∨ kind = 9 then some [24, 19] else if kind = 14 then some [1, 14] else if kind = 15 then some [34] else if kind = 16 then some [35] else if kind = 3 ∨ kind = 6 then some [] else none
theorem known_mk (kind : Int) (w : World) (l : List Int) (h : needsOf kind = some l) (hl : l.length ≤ maxLen) : ∃ u : Value, (Ending.returned (.tuple #[.slice (some ⟨w.heap.size, 0, none⟩) l.length l.length, .bool true])) = Ending.returned (.tuple #[u, .bool (needsOf kind).isSome]) ∧
      IntsAt (w.alloc (.cells (l.map (Value.int .i64)).toArray 3)) u ((needsOf kind).getD []) ∧ Upd [] w (w.alloc (.cells (l.map (Value.int .i64)).toArray 3)) := by
  rw [h]
  exact ⟨_, rfl, IntsAt.of_blk (Blk.new _ _ _) hl, (Upd.refl _ _).alloc _⟩
set_option maxHeartbeats 1000000 in
theorem known_1 (w : World) : Calls Tryz.prog 91 #[.int .i64 1] w fun e w' => ∃ v, e = .returned (.tuple #[v, .bool (needsOf 1).isSome]) ∧ IntsAt w' v ((needsOf 1).getD []) ∧ Upd [] w w' := by
  go_enter Tryz.func91, Tryz.ntmps91
  go_wp2_with fail
  go_ret2
  exact known_mk 1 w [2, 3, 7, 9] (by decide) (by simp [maxLen])
set_option maxHeartbeats 1000000 in
theorem known_2 (w : World) : Calls Tryz.prog 91 #[.int .i64 2] w fun e w' => ∃ v, e = .returned (.tuple #[v, .bool (needsOf 2).isSome]) ∧ IntsAt w' v ((needsOf 2).getD []) ∧ Upd [] w w' := by
  go_enter Tryz.func91, Tryz.ntmps91
  go_wp2_with fail
  go_ret2
  exact known_mk 2 w [2, 3, 7, 9] (by decide) (by simp [maxLen])
set_option maxHeartbeats 1000000 in
theorem known_4 (w : World) : Calls Tryz.prog 91 #[.int .i64 4] w fun e w' => ∃ v, e = .returned (.tuple #[v, .bool (needsOf 4).isSome]) ∧ IntsAt w' v ((needsOf 4).getD []) ∧ Upd [] w w' := by
  go_enter Tryz.func91, Tryz.ntmps91
  go_wp2_with fail
  go_ret2
  exact known_mk 4 w [9, 1] (by decide) (by simp [maxLen])
set_option maxHeartbeats 1000000 in
theorem known_10 (w : World) : Calls Tryz.prog 91 #[.int .i64 10] w fun e w' => ∃ v, e = .returned (.tuple #[v, .bool (needsOf 10).isSome]) ∧ IntsAt w' v ((needsOf 10).getD []) ∧ Upd [] w w' := by
  go_enter Tryz.func91, Tryz.ntmps91
  go_wp2_with fail
  go_ret2
  exact known_mk 10 w [14, 15] (by decide) (by simp [maxLen])
set_option maxHeartbeats 1000000 in
theorem known_7 (w : World) : Calls Tryz.prog 91 #[.int .i64 7] w fun e w' => ∃ v, e = .returned (.tuple #[v, .bool (needsOf 7).isSome]) ∧ IntsAt w' v ((needsOf 7).getD []) ∧ Upd [] w w' := by
  go_enter Tryz.func91, Tryz.ntmps91
  go_wp2_with fail
  go_ret2
  exact known_mk 7 w [14, 15] (by decide) (by simp [maxLen])
set_option maxHeartbeats 1000000 in
theorem known_11 (w : World) : Calls Tryz.prog 91 #[.int .i64 11] w fun e w' => ∃ v, e = .returned (.tuple #[v, .bool (needsOf 11).isSome]) ∧ IntsAt w' v ((needsOf 11).getD []) ∧ Upd [] w w' := by
  go_enter Tryz.func91, Tryz.ntmps91
  go_wp2_with fail
  go_ret2
  exact known_mk 11 w [14] (by decide) (by simp [maxLen])
set_option maxHeartbeats 1000000 in
theorem known_8 (w : World) : Calls Tryz.prog 91 #[.int .i64 8] w fun e w' => ∃ v, e = .returned (.tuple #[v, .bool (needsOf 8).isSome]) ∧ IntsAt w' v ((needsOf 8).getD []) ∧ Upd [] w w' := by
  go_enter Tryz.func91, Tryz.ntmps91
  go_wp2_with fail
  go_ret2
  exact known_mk 8 w [14] (by decide) (by simp [maxLen])
set_option maxHeartbeats 1000000 in
theorem known_12 (w : World) : Calls Tryz.prog 91 #[.int .i64 12] w fun e w' => ∃ v, e = .returned (.tuple #[v, .bool (needsOf 12).isSome]) ∧ IntsAt w' v ((needsOf 12).getD []) ∧ Upd [] w w' := by
  go_enter Tryz.func91, Tryz.ntmps91
  go_wp2_with fail
  go_ret2
  exact known_mk 12 w [24, 19] (by decide) (by simp [maxLen])
set_option maxHeartbeats 1000000 in
theorem known_9 (w : World) : Calls Tryz.prog 91 #[.int .i64 9] w fun e w' => ∃ v, e = .returned (.tuple #[v, .bool (needsOf 9).isSome]) ∧ IntsAt w' v ((needsOf 9).getD []) ∧ Upd [] w w' := by
  go_enter Tryz.func91, Tryz.ntmps91
  go_wp2_with fail
  go_ret2
  exact known_mk 9 w [24, 19] (by decide) (by simp [maxLen])
set_option maxHeartbeats 1000000 in
theorem known_14 (w : World) : Calls Tryz.prog 91 #[.int .i64 14] w fun e w' => ∃ v, e = .returned (.tuple #[v, .bool (needsOf 14).isSome]) ∧ IntsAt w' v ((needsOf 14).getD []) ∧ Upd [] w w' := by
  go_enter Tryz.func91, Tryz.ntmps91
  go_wp2_with fail
  go_ret2
  exact known_mk 14 w [1, 14] (by decide) (by simp [maxLen])
set_option maxHeartbeats 1000000 in
theorem known_15 (w : World) : Calls Tryz.prog 91 #[.int .i64 15] w fun e w' => ∃ v, e = .returned (.tuple #[v, .bool (needsOf 15).isSome]) ∧ IntsAt w' v ((needsOf 15).getD []) ∧ Upd [] w w' := by
  go_enter Tryz.func91, Tryz.ntmps91
  go_wp2_with fail
  go_ret2
  exact known_mk 15 w [34] (by decide) (by simp [maxLen])
set_option maxHeartbeats 1000000 in
theorem known_16 (w : World) : Calls Tryz.prog 91 #[.int .i64 16] w fun e w' => ∃ v, e = .returned (.tuple #[v, .bool (needsOf 16).isSome]) ∧ IntsAt w' v ((needsOf 16).getD []) ∧ Upd [] w w' := by
  go_enter Tryz.func91, Tryz.ntmps91
  go_wp2_with fail
  go_ret2
  exact known_mk 16 w [35] (by decide) (by simp [maxLen])
set_option maxHeartbeats 1000000 in
theorem known_3 (w : World) : Calls Tryz.prog 91 #[.int .i64 3] w fun e w' => ∃ v, e = .returned (.tuple #[v, .bool (needsOf 3).isSome]) ∧ IntsAt w' v ((needsOf 3).getD []) ∧ Upd [] w w' := by
  go_enter Tryz.func91, Tryz.ntmps91
  go_wp2_with fail
  go_ret2
  exact ⟨_, rfl, IntsAt.nil _, Upd.refl _ _⟩
set_option maxHeartbeats 1000000 in
theorem known_6 (w : World) : Calls Tryz.prog 91 #[.int .i64 6] w fun e w' => ∃ v, e = .returned (.tuple #[v, .bool (needsOf 6).isSome]) ∧ IntsAt w' v ((needsOf 6).getD []) ∧ Upd [] w w' := by
  go_enter Tryz.func91, Tryz.ntmps91
  go_wp2_with fail
  go_ret2
  exact ⟨_, rfl, IntsAt.nil _, Upd.refl _ _⟩
set_option maxHeartbeats 1000000 in
theorem known_none (kind : Int) (w : World) (h : needsOf kind = none) (h1 : kind ≠ 1) (h2 : kind ≠ 2) (h4 : kind ≠ 4) (h10 : kind ≠ 10) (h7 : kind ≠ 7) (h11 : kind ≠ 11) (h8 : kind ≠ 8) (h12 : kind ≠ 12) (h9 : kind ≠ 9) (h14 : kind ≠ 14) (h15 : kind ≠ 15) (h16 : kind ≠ 16) (h3 : kind ≠ 3) (h6 : kind ≠ 6) : Calls Tryz.prog 91 #[.int .i64 kind] w fun e w' => ∃ v, e = .returned (.tuple #[v, .bool (needsOf kind).isSome]) ∧ IntsAt w' v ((needsOf kind).getD []) ∧ Upd [] w w' := by
  rw [h]
  go_enter Tryz.func91, Tryz.ntmps91
  go_wp2_with fail
  go_ret2
  exact ⟨_, rfl, IntsAt.nil _, Upd.refl _ _⟩
theorem known_any (kind : Int) (w : World) : Calls Tryz.prog 91 #[.int .i64 kind] w fun e w' => ∃ v, e = .returned (.tuple #[v, .bool (needsOf kind).isSome]) ∧ IntsAt w' v ((needsOf kind).getD []) ∧ Upd [] w w' := by
  by_cases h1 : kind = 1
  · subst h1; exact known_1 w
  by_cases h2 : kind = 2
  · subst h2; exact known_2 w
  by_cases h4 : kind = 4
  · subst h4; exact known_4 w
  by_cases h10 : kind = 10
  · subst h10; exact known_10 w
  by_cases h7 : kind = 7
  · subst h7; exact known_7 w
  by_cases h11 : kind = 11
  · subst h11; exact known_11 w
  by_cases h8 : kind = 8
  · subst h8; exact known_8 w
  by_cases h12 : kind = 12
  · subst h12; exact known_12 w
  by_cases h9 : kind = 9
  · subst h9; exact known_9 w
  by_cases h14 : kind = 14
  · subst h14; exact known_14 w
  by_cases h15 : kind = 15
  · subst h15; exact known_15 w
  by_cases h16 : kind = 16
  · subst h16; exact known_16 w
  by_cases h3 : kind = 3
  · subst h3; exact known_3 w
  by_cases h6 : kind = 6
  · subst h6; exact known_6 w
  exact known_none kind w (by simp [needsOf, h1, h2, h4, h10, h7, h11, h8, h12, h9, h14, h15, h16, h3, h6]) h1 h2 h4 h10 h7 h11 h8 h12 h9 h14 h15 h16 h3 h6
end Go.Proofs.YtglafpdealjlnaaGreat
namespace Go.Proofs.YtglafpdealjlnaaGreat
open Go.RowKit
set_option maxRecDepth 100000
set_option linter.unusedSimpArgs false
set_option linter.unusedVariables false

def wrongAv (a : Av) : Int := if a.vendor ≠ 0 ∨ avpLen a.kind = -2 then (if a.must = true then 40 else 0) else if (0 ≤ avpLen a.kind ∧ (a.val.size : Int) ≠ avpLen a.kind) ∨ a.kind = 0 then 4 else 0
set_option maxHeartbeats 2000000 in
theorem wrong_any (a : Av) (w : World) :
    Calls Tryz.prog 92 #[a.agg] w fun e w' => e = .returned (.int .i64 (wrongAv a)) ∧ Upd [] w w' := by
  obtain ⟨mu, hi, ve, k, s⟩ := a
  simp only [Av.agg, wrongAv]
  have hc := (Blk.new w 85 #[.bool mu, .bool hi, .int .i64 ve, .int .i64 k, .string s])
  have HC : Hid (∀ W, Upd [] (w.alloc (Obj.cells #[.bool mu, .bool hi, .int .i64 ve, .int .i64 k, .string s] 85)) W → W.cell? ⟨w.heap.size, 0, none⟩ = some (.bool mu) ∧ W.cell? ⟨w.heap.size, 2, none⟩ = some (.int .i64 ve) ∧ W.cell? ⟨w.heap.size, 3, none⟩ = some (.int .i64 k) ∧ W.cell? ⟨w.heap.size, 4, none⟩ = some (.string s)) := by
    intro W hu
    have := hc.upd hu (by simp)
    exact ⟨this.cell 0, this.cell 2, this.cell 3, this.cell 4⟩
  have U0 := Lib.hid ((Upd.refl [] w).alloc (Obj.cells #[.bool mu, .bool hi, .int .i64 ve, .int .i64 k, .string s] 85))
  clear hc
  have hlen := fun W => length_any k W
  obtain ⟨n, hn⟩ : ∃ n, n = avpLen k := ⟨_, rfl⟩
  simp only [← hn] at hlen ⊢
  have HL := Lib.hid hlen
  clear hn hlen
  have g0 := (HC.out _ (Upd.refl _ _)).2.2.1
  go_enter Tryz.func92, Tryz.ntmps92
  go_wp2_with fail
  refine (HL.out _).mono ?_
  rintro e w1 ⟨rfl, hu⟩
  have hC := HC.out _ hu
  obtain ⟨c0, c2, c3, c4⟩ := hC
  have HU := Lib.hid (U0.out.trans hu)
  clear hu g0
  go_wp2
  all_goals
    go_ret
    refine ⟨?_, HU.out⟩
    simp_all
    try omega

def kindOf (l : List Av) : Int := match l with
  | [] => -2
  | a :: _ => if a.vendor ≠ 0 ∨ a.kind ≠ 0 ∨ a.hidden = true ∨ a.val.size ≠ 2 then -1 else num a.val 0 2
set_option maxHeartbeats 2000000 in
theorem kind_any (t s ns nr : Int) (v : Value) (l : List Av) (w : World) (hl : AvsAt w v l) (hs : ∀ a ∈ l, a.val.size ≤ maxLen) :
    Calls Tryz.prog 14 #[.agg #[.int .i64 t, .int .i64 s, .int .i64 ns, .int .i64 nr, v]] w fun e w' => e = .returned (.int .i64 (kindOf l)) ∧ Upd [] w w' := by
  cases l with
  | nil =>
    obtain ⟨ao, cap, rfl, h1, h2, -⟩ := hl
    simp only [kindOf, List.length_nil] at h1 ⊢
    go_enter Tryz.func14, Tryz.ntmps14
    go_wp2
    go_ret
    exact ⟨rfl, (Upd.refl _ _).alloc _⟩
  | cons a l =>
    obtain ⟨ao, cap, rfl, h1, h2, h3⟩ := hl
    obtain ⟨q, rfl, d0, d1, d2, d3, d4⟩ := h3 0 a rfl
    simp only [kindOf]
    obtain ⟨mu, hi, ve, k, x⟩ := a
    simp only [Nat.zero_mul] at d0 d1 d2 d3 d4
    obtain ⟨n, hn⟩ : ∃ n, n = (⟨mu, hi, ve, k, x⟩ :: l : List Av).length := ⟨_, rfl⟩
    simp only [← hn] at h1 ⊢
    have hn1 : 1 ≤ n := by simp at hn; omega
    have U1 := (Upd.refl [] w).alloc (.cells #[.int .i64 t, .int .i64 s, .int .i64 ns, .int .i64 nr, .slice (some q) n cap] 24)
    have A1 : AvAt (w.alloc (.cells #[.int .i64 t, .int .i64 s, .int .i64 ns, .int .i64 nr, .slice (some q) n cap] 24)) q ⟨mu, hi, ve, k, x⟩ := AvAt.upd ⟨d0, d1, d2, d3, d4⟩ U1
    simp only [AvAt] at A1
    obtain ⟨e0, e1, e2, e3, e4⟩ := A1
    clear h3 hn d0 d1 d2 d3 d4 U1
    simp only [maxLen] at h2
    have hx : x.size ≤ maxLen := hs _ List.mem_cons_self
    clear hs
    by_cases t1 : ve = 0
    · by_cases t2 : k = 0
      · cases hi
        · by_cases t4 : x.size = 2
          · have H4 := Lib.hid (And.intro hx t4)
            rw [if_neg (by simp [t1, t2, t4])]
            subst t1 t2
            have t4' : (x.size : Int) = 2 := by omega
            clear hx t4
            go_enter Tryz.func14, Tryz.ntmps14
            go_wp2_with fail
            refine (msgNum_any x 0 H4.out.1 (by have := H4.out.2; omega) _).mono ?_
            rintro e w1 ⟨rfl, rfl⟩
            go_wp2_with fail
            go_ret
            exact ⟨rfl, ((Upd.refl _ _).alloc _).alloc _⟩
          · rw [if_pos (by simp [t4])]
            subst t1 t2
            have t4' : ¬ (x.size : Int) = 2 := by omega
            clear hx t4
            go_enter Tryz.func14, Tryz.ntmps14
            go_wp2_with fail
            go_ret
            exact ⟨rfl, ((Upd.refl _ _).alloc _).alloc _⟩
        · rw [if_pos (by simp)]
          subst t1 t2
          clear hx
          go_enter Tryz.func14, Tryz.ntmps14
          go_wp2_with fail
          go_ret
          exact ⟨rfl, ((Upd.refl _ _).alloc _).alloc _⟩
      · rw [if_pos (by simp [t2])]
        subst t1
        clear hx
        go_enter Tryz.func14, Tryz.ntmps14
        go_wp2_with fail
        go_ret
        exact ⟨rfl, ((Upd.refl _ _).alloc _).alloc _⟩
    · rw [if_pos (by simp [t1])]
      clear hx
      go_enter Tryz.func14, Tryz.ntmps14
      go_wp2_with fail
      go_ret
      exact ⟨rfl, ((Upd.refl _ _).alloc _).alloc _⟩
end Go.Proofs.YtglafpdealjlnaaGreat
namespace Go.Proofs.YtglafpdealjlnaaGreat
open Go.RowKit
set_option maxRecDepth 100000
set_option linter.unusedSimpArgs false
set_option linter.unusedVariables false

def badOf : List Av → Int
  | [] => 0
  | a :: r => if wrongAv a = 0 then badOf r else wrongAv a
def needOf (l : List Av) : List Int → Int
  | [] => 0
  | k :: r => if (findAv k l).2 = true then needOf l r else 40
def checkOf (l : List Av) : Int := match l with
  | [] => 0
  | _ :: r => match needsOf (kindOf l) with
    | none => 40
    | some ns => if badOf r = 0 then needOf l ns else badOf r
theorem avs_drop1 {w : World} {q : Addr} {n cap : Nat} {l : List Av} (h : AvsAt w (.slice (some q) n cap) l) (hl : 1 ≤ l.length) : AvsAt w (.slice (some (if cap = 1 then q else q.add 5)) (n - 1) (cap - 1)) (l.drop 1) := by
  have h1 := h.drop 1 hl
  obtain ⟨_, _, e, _⟩ := h
  injection e with _ e _
  subst e
  have : (if cap = 1 then some q else some (q.add (1 * 5))) = some (if cap = 1 then q else q.add 5) := by split <;> rfl
  rwa [this] at h1
theorem add5 (q : Addr) : q.add 5 = ⟨q.block, q.off + 5, none⟩ := by
  have := add_off q 0 5 (by omega)
  rwa [show q.add 0 = q by unfold Addr.add; split <;> simp_all] at this
set_option maxHeartbeats 4000000 in
theorem check_any (t s ns nr : Int) (v : Value) (l : List Av) (w : World) (hl : AvsAt w v l) (hs : ∀ a ∈ l, a.val.size ≤ maxLen) :
    Calls Tryz.prog 16 #[.agg #[.int .i64 t, .int .i64 s, .int .i64 ns, .int .i64 nr, v]] w fun e w' => e = .returned (.int .i64 (checkOf l)) ∧ Upd [] w w' := by
  by_cases hl0 : l = []
  · subst hl0
    obtain ⟨ao, cap, rfl, h1, h2, -⟩ := hl
    simp only [checkOf, List.length_nil] at h1 ⊢
    go_enter Tryz.func16, Tryz.ntmps16
    go_wp2
    go_ret
    exact ⟨rfl, (Upd.refl _ _).alloc _⟩
  obtain ⟨a0, r, hr⟩ : ∃ a r, l = a :: r := List.exists_cons_of_ne_nil hl0
  have HCK : Hid (checkOf l = match needsOf (kindOf l) with | none => 40 | some ns => if badOf r = 0 then needOf l ns else badOf r) := by rw [hr]; exact rfl
  have HD : Hid (l.drop 1 = r) := by show _ = _; rw [hr]; rfl
  have HS := Lib.hid hs
  have hn1 : 1 ≤ l.length := by rw [hr]; simp
  obtain ⟨ao, cap, rfl, h1, h2, h3⟩ := id hl
  obtain ⟨q, rfl, -⟩ := h3 0 a0 (by rw [hr]; rfl)
  obtain ⟨n, hn⟩ : ∃ n, n = l.length := ⟨_, rfl⟩
  rw [← hn] at h1 hn1 hl
  simp only [← hn]
  have HL := Lib.hid hl
  have HN := Lib.hid hn
  simp only [maxLen] at h2
  have HC : Hid (∀ W, Upd [] (w.alloc (.cells #[.int .i64 t, .int .i64 s, .int .i64 ns, .int .i64 nr, .slice (some q) n cap] 24)) W → W.cell? ⟨w.heap.size, 4, none⟩ = some (.slice (some q) n cap)) := by
    intro W hu
    exact ((Blk.new w 24 #[.int .i64 t, .int .i64 s, .int .i64 ns, .int .i64 nr, .slice (some q) n cap]).upd hu (by simp)).cell 4
  have U1 := Lib.hid ((Upd.refl [] w).alloc (.cells #[.int .i64 t, .int .i64 s, .int .i64 ns, .int .i64 nr, .slice (some q) n cap] 24))
  clear hl hn h3 hr hl0 hs
  cases hN : needsOf (kindOf l)
  case none =>
    have HK := Lib.hid hN
    clear hN
    go_enter Tryz.func16, Tryz.ntmps16
    go_wp2_with fail
    refine (kind_any t s ns nr _ l _ (HL.out.upd U1.out) HS.out).mono ?_
    rintro e w1 ⟨rfl, hu1⟩
    have HU1 := Lib.hid hu1
    clear hu1
    go_wp2_with fail
    refine (known_any _ _).mono ?_
    rintro e w2 ⟨vn, rfl, hin, hu2⟩
    have HU2 := Lib.hid (HU1.out.trans hu2)
    rw [HK.out]
    simp only [Option.isSome_none]
    clear hu2 hin
    go_wp2_with fail
    go_ret
    rw [HCK.out, HK.out]
    exact ⟨rfl, U1.out.trans HU2.out⟩
  case some nl =>
    have HK := Lib.hid hN
    clear hN
    go_enter Tryz.func16, Tryz.ntmps16
    go_wp2_with fail
    refine (kind_any t s ns nr _ l _ (HL.out.upd U1.out) HS.out).mono ?_
    rintro e w1 ⟨rfl, hu1⟩
    have HU1 := Lib.hid hu1
    clear hu1
    go_wp2_with fail
    refine (known_any _ _).mono ?_
    rintro e w2 ⟨vn, rfl, hin, hu2⟩
    have HU2 := Lib.hid (HU1.out.trans hu2)
    have hc := HC.out _ HU2.out
    rw [HK.out] at hin ⊢
    simp only [Option.isSome_some, Option.getD_some] at hin ⊢
    obtain ⟨bo, cbp, rfl, i1, i2, -⟩ := id hin
    obtain ⟨j, hj⟩ : ∃ j, j = nl.length := ⟨_, rfl⟩
    rw [← hj] at i1 hin
    simp only [← hj]
    have HIN := Lib.hid hin
    have HJ := Lib.hid hj
    clear hj
    simp only [maxLen] at i2
    clear hu2 hin
    go_wp2_with fail
    case inl h =>
      subst h
      have H1 := Lib.hid h1
      clear h1
      have HR : Hid (AvsAt w2 (.slice (some q) (n - 1) 0) r) := by
        show AvsAt _ _ _
        have h9 := avs_drop1 HL.out (by rw [← HN.out]; exact hn1)
        rw [HD.out] at h9
        have h8 := (h9.upd U1.out).upd HU2.out
        simpa [add5] using h8
      have HRL : Hid (n - 1 = r.length) := by
        show _ = _
        have h9 := congrArg List.length HD.out
        rw [List.length_drop, ← HN.out] at h9
        exact h9
      go_loopg [28] (n - 1) (fun m s28 wr => ∃ k : Nat, k + m = n - 1 ∧ s28 = .int .i64 k ∧ badOf (r.drop k) = badOf r ∧ Upd [] w2 wr)
      case atStart => exact ⟨0, by omega, rfl, rfl, Upd.refl _ _⟩
      case round =>
        obtain ⟨k, hk, rfl, hbad, hu⟩ := hrel
        by_cases tk : k < n - 1
        · exfalso; have := H1.out; omega
        · obtain rfl : k = n - 1 := by omega
          have hd : r.drop (n - 1) = [] := by rw [HRL.out]; simp
          rw [hd, badOf] at hbad
          have HB := Lib.hid hbad
          have HU := Lib.hid hu
          clear hbad hd hu
          go_wp2_with fail
          go_loopg [40] j (fun m s40 wr => ∃ k : Nat, k + m = j ∧ s40 = .int .i64 k ∧ needOf l (nl.drop k) = needOf l nl ∧ Upd [] w2 wr)
          case atStart => exact ⟨0, by omega, rfl, rfl, HU.out⟩
          case round =>
            obtain ⟨k, hk, rfl, hneed, hu⟩ := hrel
            by_cases tk2 : k < j
            · obtain ⟨x, hx⟩ : ∃ x, nl[k]? = some x := ⟨_, List.getElem?_eq_getElem (by rw [← HJ.out]; exact tk2)⟩
              obtain ⟨ao', cap', e0, -, -, h3⟩ := HIN.out.upd hu
              injection e0 with e0 e1 e2
              clear e1
              subst e0 e2
              obtain ⟨q', rfl, c0⟩ := h3 k x hx
              have hcc := HC.out _ (HU2.out.trans hu)
              have hd : nl.drop k = x :: nl.drop (k + 1) := by
                obtain ⟨h5, h6⟩ := List.getElem?_eq_some_iff.1 hx
                rw [List.drop_eq_getElem_cons h5, h6]
              rw [hd, needOf] at hneed
              have HE := Lib.hid hneed
              have HU5 := Lib.hid hu
              clear hneed hd hu hx h3
              have hfd := fun (v : Value) (W : World) (hl : AvsAt W v l) => avFind_any l v x W hl
              obtain ⟨fs, fb, hf⟩ : ∃ fs fb, findAv x l = (fs, fb) := ⟨_, _, rfl⟩
              rw [hf] at hfd
              have HFD := Lib.hid hfd
              have HF := Lib.hid hf
              clear hfd hf
              cases fb
              · go_wp2_with fail
                refine (HFD.out _ _ (((HL.out.upd U1.out).upd HU2.out).upd HU5.out)).mono ?_
                rintro e w' ⟨rfl, hu2⟩
                have HU6 := Lib.hid (HU5.out.trans hu2)
                clear hu2
                go_wp2_with fail
                go_ret
                refine ⟨?_, U1.out.trans (HU2.out.trans HU6.out)⟩
                have h9 := HE.out
                rw [HF.out, if_neg (by simp)] at h9
                rw [HCK.out, HK.out]
                simp only [← HB.out, if_true, ← h9]
                try rfl
              · go_wp2_with fail
                refine (HFD.out _ _ (((HL.out.upd U1.out).upd HU2.out).upd HU5.out)).mono ?_
                rintro e w' ⟨rfl, hu2⟩
                have HU6 := Lib.hid (HU5.out.trans hu2)
                clear hu2
                go_wp2_with fail
                go_roundg (j - (k + 1))
                case rel => exact ⟨k + 1, by omega, by go_num, by rw [← HE.out, if_pos (by rw [HF.out])], HU6.out⟩
                case measure => omega
            · obtain rfl : k = j := by omega
              have hd : nl.drop k = [] := by rw [HJ.out]; simp
              rw [hd, needOf] at hneed
              have HE := Lib.hid hneed
              have HU4 := Lib.hid hu
              clear hneed hd hu
              go_wp2_with fail
              go_ret
              refine ⟨?_, U1.out.trans (HU2.out.trans HU4.out)⟩
              rw [HCK.out, HK.out]
              simp only [← HB.out, if_true, ← HE.out]
              try rfl
    case inr h =>
      have HR : Hid (AvsAt w2 (.slice (some ⟨q.block, q.off + 5, none⟩) (n - 1) (cap - 1)) r) := by
        show AvsAt _ _ _
        have h9 := avs_drop1 HL.out (by rw [← HN.out]; exact hn1)
        rw [HD.out] at h9
        have h8 := (h9.upd U1.out).upd HU2.out
        simpa [h, add5] using h8
      have HRL : Hid (n - 1 = r.length) := by
        show _ = _
        have h9 := congrArg List.length HD.out
        rw [List.length_drop, ← HN.out] at h9
        exact h9
      go_loopg [28] (n - 1) (fun m s28 wr => ∃ k : Nat, k + m = n - 1 ∧ s28 = .int .i64 k ∧ badOf (r.drop k) = badOf r ∧ Upd [] w2 wr)
      case atStart => exact ⟨0, by omega, rfl, rfl, Upd.refl _ _⟩
      case round =>
        obtain ⟨k, hk, rfl, hbad, hu⟩ := hrel
        by_cases tk : k < n - 1
        · obtain ⟨x, hx⟩ : ∃ x, r[k]? = some x := by
            have := HRL.out
            exact ⟨_, List.getElem?_eq_getElem (by omega)⟩
          obtain ⟨ao', cap', e0, -, -, h3⟩ := HR.out.upd hu
          injection e0 with e0 e1 e2
          clear e1
          subst e0 e2
          obtain ⟨q', e0, c0, c1, c2, c3, c4⟩ := h3 k x hx
          injection e0 with e0
          subst e0
          simp only [add_plain'] at c0 c1 c2 c3 c4
          clear h3
          have hd : r.drop k = x :: r.drop (k + 1) := by
            obtain ⟨h5, h6⟩ := List.getElem?_eq_some_iff.1 hx
            rw [List.drop_eq_getElem_cons h5, h6]
          rw [hd, badOf] at hbad
          have HB := Lib.hid hbad
          have HU := Lib.hid hu
          clear hbad hd hu hx
          have hw := fun W => wrong_any x W
          obtain ⟨z, hz⟩ : ∃ z, z = wrongAv x := ⟨_, rfl⟩
          simp only [← hz, Av.agg] at hw
          have HW := Lib.hid hw
          have HZ := Lib.hid hz
          clear hw hz
          by_cases tz : z = 0
          · go_wp2_with fail
            refine (HW.out _).mono ?_
            rintro e w' ⟨rfl, hu2⟩
            have HU3 := Lib.hid ((HU.out.alloc _).trans hu2)
            clear hu2
            go_wp2_with fail
            go_roundg (n - 1 - (k + 1))
            case rel => exact ⟨k + 1, by omega, by go_num, by rw [← HB.out, if_pos (HZ.out.symm.trans tz)], HU3.out⟩
            case measure => omega
          · go_wp2_with fail
            refine (HW.out _).mono ?_
            rintro e w' ⟨rfl, hu2⟩
            have HU3 := Lib.hid ((HU.out.alloc _).trans hu2)
            clear hu2
            go_wp2_with fail
            go_ret
            refine ⟨?_, U1.out.trans (HU2.out.trans HU3.out)⟩
            have h9 := HB.out
            rw [← HZ.out, if_neg tz] at h9
            rw [HCK.out, HK.out]
            simp only [← h9, if_neg tz]
            try rfl
        · obtain rfl : k = n - 1 := by omega
          have hd : r.drop (n - 1) = [] := by rw [HRL.out]; simp
          rw [hd, badOf] at hbad
          have HB := Lib.hid hbad
          have HU := Lib.hid hu
          clear hbad hd hu
          go_wp2_with fail
          go_loopg [40] j (fun m s40 wr => ∃ k : Nat, k + m = j ∧ s40 = .int .i64 k ∧ needOf l (nl.drop k) = needOf l nl ∧ Upd [] w2 wr)
          case atStart => exact ⟨0, by omega, rfl, rfl, HU.out⟩
          case round =>
            obtain ⟨k, hk, rfl, hneed, hu⟩ := hrel
            by_cases tk2 : k < j
            · obtain ⟨x, hx⟩ : ∃ x, nl[k]? = some x := ⟨_, List.getElem?_eq_getElem (by rw [← HJ.out]; exact tk2)⟩
              obtain ⟨ao', cap', e0, -, -, h3⟩ := HIN.out.upd hu
              injection e0 with e0 e1 e2
              clear e1
              subst e0 e2
              obtain ⟨q', rfl, c0⟩ := h3 k x hx
              have hcc := HC.out _ (HU2.out.trans hu)
              have hd : nl.drop k = x :: nl.drop (k + 1) := by
                obtain ⟨h5, h6⟩ := List.getElem?_eq_some_iff.1 hx
                rw [List.drop_eq_getElem_cons h5, h6]
              rw [hd, needOf] at hneed
              have HE := Lib.hid hneed
              have HU5 := Lib.hid hu
              clear hneed hd hu hx h3
              have hfd := fun (v : Value) (W : World) (hl : AvsAt W v l) => avFind_any l v x W hl
              obtain ⟨fs, fb, hf⟩ : ∃ fs fb, findAv x l = (fs, fb) := ⟨_, _, rfl⟩
              rw [hf] at hfd
              have HFD := Lib.hid hfd
              have HF := Lib.hid hf
              clear hfd hf
              cases fb
              · go_wp2_with fail
                refine (HFD.out _ _ (((HL.out.upd U1.out).upd HU2.out).upd HU5.out)).mono ?_
                rintro e w' ⟨rfl, hu2⟩
                have HU6 := Lib.hid (HU5.out.trans hu2)
                clear hu2
                go_wp2_with fail
                go_ret
                refine ⟨?_, U1.out.trans (HU2.out.trans HU6.out)⟩
                have h9 := HE.out
                rw [HF.out, if_neg (by simp)] at h9
                rw [HCK.out, HK.out]
                simp only [← HB.out, if_true, ← h9]
                try rfl
              · go_wp2_with fail
                refine (HFD.out _ _ (((HL.out.upd U1.out).upd HU2.out).upd HU5.out)).mono ?_
                rintro e w' ⟨rfl, hu2⟩
                have HU6 := Lib.hid (HU5.out.trans hu2)
                clear hu2
                go_wp2_with fail
                go_roundg (j - (k + 1))
                case rel => exact ⟨k + 1, by omega, by go_num, by rw [← HE.out, if_pos (by rw [HF.out])], HU6.out⟩
                case measure => omega
            · obtain rfl : k = j := by omega
              have hd : nl.drop k = [] := by rw [HJ.out]; simp
              rw [hd, needOf] at hneed
              have HE := Lib.hid hneed
              have HU4 := Lib.hid hu
              clear hneed hd hu
              go_wp2_with fail
              go_ret
              refine ⟨?_, U1.out.trans (HU2.out.trans HU4.out)⟩
              rw [HCK.out, HK.out]
              simp only [← HB.out, if_true, ← HE.out]
              try rfl
end Go.Proofs.YtglafpdealjlnaaGreat
namespace Go.Proofs.YtglafpdealjlnaaGreat
open Go.RowKit
set_option maxRecDepth 100000
set_option linter.unusedSimpArgs false
set_option linter.unusedVariables false

theorem info_avp : (Tryz.prog.info? 85).map (fun i => (i.zero, i.size, i.bytes)) = some (some (.agg #[.bool false, .bool false, .int .i64 0, .int .i64 0, .string ⟨#[]⟩]), 5, 40) := by kernel_rfl
theorem Own.rows_new (w : World) (e : TypeId) {size n : Nat} {cs : List Value} (h : cs.length = n * size) (hm : n ≤ maxLen) : Own (w.alloc (.cells cs.toArray e)) e size (.slice (some ⟨w.heap.size, 0, none⟩) n n) n cs [w.heap.size] :=
  ⟨h, .inr ⟨w.heap.size, 0, n, cs.toArray, rfl, rfl, Blk.new _ _ _, Nat.le_refl _, hm, by simp [h], by simp [← h]⟩⟩
set_option maxHeartbeats 2000000 in
theorem make_any (kind : Int) (l : List Av) (v : Value) (w : World) (hl : AvsAt w v l) (hs : l.length < 1000000) :
    Calls Tryz.prog 19 #[.int .i64 kind, v] w fun e w' => ∃ u own, e = .returned u ∧ Own w' 85 5 u (1 + l.length) (avCells (numAv 0 kind 2 :: l)) own ∧ (∀ k, k ∈ own → w.heap.size ≤ k) ∧ Upd [] w w' := by
  have RL := Lib.hid hl.rd
  have hnum := fun W => num_ok 0 kind 2 (by omega) W
  simp only [Av.agg, numAv] at hnum
  have HNUM := Lib.hid hnum
  have HS := Lib.hid hs
  have HV := Lib.hid hl
  clear hl hs hnum
  obtain ⟨x, hx⟩ : ∃ x, be 2 kind = x := ⟨_, rfl⟩
  have HX := Lib.hid hx
  rw [hx] at HNUM
  clear hx
  obtain ⟨i0, hi, hz0, hz1, hz2⟩ := info_parts info_avp
  go_enter Tryz.func19, Tryz.ntmps19
  go_wp2_with fail
  refine (HNUM.out _).mono ?_
  rintro e w1 ⟨rfl, hu1⟩
  have HU1 := Lib.hid hu1
  clear hu1
  have HO0 : Hid (Own (w1.alloc (.cells #[.bool true, .bool false, .int .i64 0, .int .i64 0, .string x] 85)) 85 5 (.slice (some ⟨w1.heap.size, 0, none⟩) 1 1) 1 [.bool true, .bool false, .int .i64 0, .int .i64 0, .string x] [w1.heap.size]) :=
    Own.rows_new w1 85 (n := 1) (size := 5) (cs := [.bool true, .bool false, .int .i64 0, .int .i64 0, .string x]) rfl (by simp [maxLen])
  have RL1 := Lib.hid (RL.out.upd (HU1.out.alloc (.cells #[.bool true, .bool false, .int .i64 0, .int .i64 0, .string x] 85)))
  go_wp2_with (first
    | (at_builtin; refine wpList_append_Rd _ rfl (.tmp 7) (.tmp 8) 22 rfl 85 i0 _ 5 40 Tryz.underlying22 hi hz0 hz1 hz2 rfl (by decide) _ 1 _ _ (by simp [Act.eval]) HO0.out v l.length (avCells l) (by simp [Act.eval]) RL1.out (by have := HS.out; simp only [maxLen]; omega) (by have := HS.out; omega) ?_; intro ao1 cap1 w5 own1 ho1 hin1 hu5; have HO1 := Lib.hid ho1; have HIN1 := Lib.hid hin1; have HU5 := Lib.hid hu5; clear ho1 hin1 hu5; generalize Value.slice ao1 (1 + l.length) cap1 = v5 at *))
  go_ret
  refine ⟨_, own1, rfl, ?_, fun k hk => ?_, ?_⟩
  · have h := HO1.out
    have e1 : avCells (numAv 0 kind 2 :: l) = [.bool true, .bool false, .int .i64 0, .int .i64 0, .string x] ++ avCells l := by rw [← HX.out]; rfl
    rw [e1]; exact h
  · have h1 := HU1.out.size
    rcases HIN1.out k hk with h | h
    · simp at h; omega
    · simp at h; omega
  · refine (HU1.out.alloc _).trans' HU5.out (fun y hy => .inr ?_)
    have h1 := HU1.out.size
    simp at hy; omega
end Go.Proofs.YtglafpdealjlnaaGreat
