/- The walks of msg.Kind, wrong. -/
import Derived.Test.YtcplhlokbnaabaaMsgA
namespace Go.Proofs.Ytcplhlokbnaabaa
open Go.RowKit
set_option maxRecDepth 20000
set_option linter.unusedSimpArgs false
set_option linter.unusedVariables false

def wrongAv (a : Av) : Int := if a.vendor ≠ 0 ∨ avpLen a.kind = -2 then (if a.must = true then 40 else 0) else if (0 ≤ avpLen a.kind ∧ (a.val.size : Int) ≠ avpLen a.kind) ∨ a.kind = 0 then 4 else 0
set_option maxHeartbeats 2000000 in
theorem wrong_any (a : Av) (w : World) :
    Calls Try.prog 23 #[a.agg] w fun e w' => e = .returned (.int .i64 (wrongAv a)) ∧ Upd [] w w' := by
  obtain ⟨mu, hi, ve, k, s⟩ := a
  simp only [Av.agg, wrongAv]
  have hc := (Blk.new w 27 #[.bool mu, .bool hi, .int .i64 ve, .int .i64 k, .string s])
  have HC : Hid (∀ W, Upd [] (w.alloc (Obj.cells #[.bool mu, .bool hi, .int .i64 ve, .int .i64 k, .string s] 27)) W → W.cell? ⟨w.heap.size, 0, none⟩ = some (.bool mu) ∧ W.cell? ⟨w.heap.size, 2, none⟩ = some (.int .i64 ve) ∧ W.cell? ⟨w.heap.size, 3, none⟩ = some (.int .i64 k) ∧ W.cell? ⟨w.heap.size, 4, none⟩ = some (.string s)) := by
    intro W hu
    have := hc.upd hu (by simp)
    exact ⟨this.cell 0, this.cell 2, this.cell 3, this.cell 4⟩
  have U0 := Lib.hid ((Upd.refl [] w).alloc (Obj.cells #[.bool mu, .bool hi, .int .i64 ve, .int .i64 k, .string s] 27))
  clear hc
  have hlen := fun W => length_any k W
  obtain ⟨n, hn⟩ : ∃ n, n = avpLen k := ⟨_, rfl⟩
  simp only [← hn] at hlen ⊢
  have HL := Lib.hid hlen
  clear hn hlen
  have g0 := (HC.out _ (Upd.refl _ _)).2.2.1
  go_enter Try.func23, Try.ntmps23
  go_wp2_with fail
  refine (HL.out _).mono ?_
  rintro e w1 ⟨rfl, hu⟩
  have hC := HC.out _ hu
  obtain ⟨c0, c2, c3, c4⟩ := hC
  have HU := Lib.hid (U0.out.trans hu)
  clear hu g0
  go_wp2
  all_goals
    go_ret
    refine ⟨?_, HU.out⟩
    simp_all
    try omega

def kindOf (l : List Av) : Int := match l with
  | [] => -2
  | a :: _ => if a.vendor ≠ 0 ∨ a.kind ≠ 0 ∨ a.hidden = true ∨ a.val.size ≠ 2 then -1 else num a.val 0 2
set_option maxHeartbeats 2000000 in
theorem kind_any (t s ns nr : Int) (v : Value) (l : List Av) (w : World) (hl : AvsAt w v l) (hs : ∀ a ∈ l, a.val.size ≤ maxLen) :
    Calls Try.prog 13 #[.agg #[.int .i64 t, .int .i64 s, .int .i64 ns, .int .i64 nr, v]] w fun e w' => e = .returned (.int .i64 (kindOf l)) ∧ Upd [] w w' := by
  cases l with
  | nil =>
    obtain ⟨ao, cap, rfl, h1, h2, -⟩ := hl
    simp only [kindOf, List.length_nil] at h1 ⊢
    go_enter Try.func13, Try.ntmps13
    go_wp2
    go_ret
    exact ⟨rfl, (Upd.refl _ _).alloc _⟩
  | cons a l =>
    obtain ⟨ao, cap, rfl, h1, h2, h3⟩ := hl
    obtain ⟨q, rfl, d0, d1, d2, d3, d4⟩ := h3 0 a rfl
    simp only [kindOf]
    obtain ⟨mu, hi, ve, k, x⟩ := a
    simp only [Nat.zero_mul] at d0 d1 d2 d3 d4
    obtain ⟨n, hn⟩ : ∃ n, n = (⟨mu, hi, ve, k, x⟩ :: l : List Av).length := ⟨_, rfl⟩
    simp only [← hn] at h1 ⊢
    have hn1 : 1 ≤ n := by simp at hn; omega
    have U1 := (Upd.refl [] w).alloc (.cells #[.int .i64 t, .int .i64 s, .int .i64 ns, .int .i64 nr, .slice (some q) n cap] 33)
    have A1 : AvAt (w.alloc (.cells #[.int .i64 t, .int .i64 s, .int .i64 ns, .int .i64 nr, .slice (some q) n cap] 33)) q ⟨mu, hi, ve, k, x⟩ := AvAt.upd ⟨d0, d1, d2, d3, d4⟩ U1
    simp only [AvAt] at A1
    obtain ⟨e0, e1, e2, e3, e4⟩ := A1
    clear h3 hn d0 d1 d2 d3 d4 U1
    simp only [maxLen] at h2
    have hx : x.size ≤ maxLen := hs _ List.mem_cons_self
    clear hs
    by_cases t1 : ve = 0
    · by_cases t2 : k = 0
      · cases hi
        · by_cases t4 : x.size = 2
          · have H4 := Lib.hid (And.intro hx t4)
            rw [if_neg (by simp [t1, t2, t4])]
            subst t1 t2
            have t4' : (x.size : Int) = 2 := by omega
            clear hx t4
            go_enter Try.func13, Try.ntmps13
            go_wp2_with fail
            refine (msgNum_any x 0 H4.out.1 (by have := H4.out.2; omega) _).mono ?_
            rintro e w1 ⟨rfl, rfl⟩
            go_wp2_with fail
            go_ret
            exact ⟨rfl, ((Upd.refl _ _).alloc _).alloc _⟩
          · rw [if_pos (by simp [t4])]
            subst t1 t2
            have t4' : ¬ (x.size : Int) = 2 := by omega
            clear hx t4
            go_enter Try.func13, Try.ntmps13
            go_wp2_with fail
            go_ret
            exact ⟨rfl, ((Upd.refl _ _).alloc _).alloc _⟩
        · rw [if_pos (by simp)]
          subst t1 t2
          clear hx
          go_enter Try.func13, Try.ntmps13
          go_wp2_with fail
          go_ret
          exact ⟨rfl, ((Upd.refl _ _).alloc _).alloc _⟩
      · rw [if_pos (by simp [t2])]
        subst t1
        clear hx
        go_enter Try.func13, Try.ntmps13
        go_wp2_with fail
        go_ret
        exact ⟨rfl, ((Upd.refl _ _).alloc _).alloc _⟩
    · rw [if_pos (by simp [t1])]
      clear hx
      go_enter Try.func13, Try.ntmps13
      go_wp2_with fail
      go_ret
      exact ⟨rfl, ((Upd.refl _ _).alloc _).alloc _⟩
end Go.Proofs.Ytcplhlokbnaabaa
