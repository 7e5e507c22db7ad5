/- The walks of opts.Find, of Light and of the first call (alive). -/
import Derived.Test.YthkfgjmifoeljaaGreatOptE
namespace Go.Proofs.YthkfgjmifoeljaaGreat
open Go.RowKit
set_option maxRecDepth 100000
set_option linter.unusedSimpArgs false
set_option linter.unusedVariables false

theorem ixf_spec (p : Tg → Bool) (l : List Tg) (k : Nat) : (ixf p l k = -1 ∧ l.find? p = none) ∨ ∃ (i : Nat) (t : Tg), ixf p l k = ((k + i : Nat) : Int) ∧ l[i]? = some t ∧ l.find? p = some t := by
  induction l generalizing k with
  | nil => exact .inl ⟨rfl, rfl⟩
  | cons t l ih =>
    rw [ixf]
    by_cases h : p t = true
    · rw [if_pos h]
      exact .inr ⟨0, t, rfl, rfl, by simp [h]⟩
    · rw [if_neg h]
      have h' : p t = false := by simpa using h
      rcases ih (k + 1) with ⟨h1, h2⟩ | ⟨i, x, h1, h2, h3⟩
      · exact .inl ⟨h1, by simp [h', h2]⟩
      · exact .inr ⟨i + 1, x, by rw [h1]; congr 1; omega, by simpa using h2, by simp [h', h3]⟩
def kindIs (kind : Int) (t : Tg) : Bool := t.k == kind
def findO (kind : Int) (l : List Tg) : ByteArray × Bool := match l.find? (kindIs kind) with
  | some t => (t.s, true)
  | none => (⟨#[]⟩, false)

set_option maxHeartbeats 400000 in
theorem find1_any (kind : Int) (t : Tg) (g : Nat) (w : World) (hg : w.cell? ⟨g, 0, none⟩ = some (.int .i64 kind)) :
    Calls Tryz.prog 42 #[t.val, .pointer (some ⟨g, 0, none⟩)] w fun e w' => e = .returned (.bool (kindIs kind t)) ∧ Upd [] w w' := by
  obtain ⟨k, s⟩ := t
  simp only [Tg.val, kindIs]
  have hc := ((Upd.refl [] w).alloc (Obj.cells #[Value.int IntKind.i64 k, Value.string s] 67)).cell (p := ⟨g, 0, none⟩) (cell_lt hg) (by simp)
  rw [hg] at hc
  have hlt := cell_lt hg
  simp only at hlt
  go_enter Tryz.func42, Tryz.ntmps42
  go_wp2_with fail
  go_ret
  exact ⟨rfl, (Upd.refl _ _).alloc _⟩

set_option maxHeartbeats 1000000 in
theorem optFind_any (l : List Tg) (v : Value) (kind : Int) (w : World) (hl : TgsAt w v l) :
    Calls Tryz.prog 21 #[v, .int .i64 kind] w fun e w' => e = .returned (.tuple #[.string (findO kind l).1, .bool (findO kind l).2]) ∧ Upd [] w w' := by
  obtain ⟨ao, cap, rfl, h1, h2, -⟩ := id hl
  obtain ⟨n, hn⟩ : ∃ n, n = l.length := ⟨_, rfl⟩
  rw [← hn] at h1
  rw [← hn]
  have HL := Lib.hid hl
  have HN := Lib.hid hn
  simp only [maxLen] at h2
  clear hl hn
  have A0 := Blk.new w 3 #[Value.int IntKind.i64 kind]
  have U0 := Lib.hid ((Upd.refl [] w).alloc (Obj.cells #[Value.int IntKind.i64 kind] 3))
  have HA : Hid (∀ W, Upd [] (w.alloc (Obj.cells #[Value.int IntKind.i64 kind] 3)) W → W.cell? ⟨w.heap.size, 0, none⟩ = some (.int .i64 kind)) := fun W hu => (A0.upd hu (by simp)).cell 0
  clear A0
  have HS := Lib.hid (ixf_spec (kindIs kind) l 0)
  go_enter Tryz.func21, Tryz.ntmps21
  go_wp2_with fail
  refine (indexFuncC_any 42 _ (kindIs kind) l _ _ ((by rw [HN.out]; exact HL.out : TgsAt w (.slice ao n cap) l).upd U0.out) (fun _ _ => by kernel_rfl) (fun t ht W hu => find1_any kind t _ W (HA.out W hu))).mono ?_
  rintro e w1 ⟨rfl, hu⟩
  have HU := Lib.hid (U0.out.trans hu)
  clear hu
  rcases HS.out with ⟨h1, h2⟩ | ⟨i, t, h1, h2, h3⟩
  · rw [h1]
    have HF : Hid (findO kind l = (⟨#[]⟩, false)) := by show _ = _; rw [findO, h2]
    clear h1 h2
    go_wp2_with fail
    go_ret2
    rw [HF.out]
    exact ⟨rfl, HU.out⟩
  · rw [h1, Nat.zero_add]
    have HF : Hid (findO kind l = (t.s, true)) := by show _ = _; rw [findO, h3]
    have hil : i < n := by rw [HN.out]; exact (List.getElem?_eq_some_iff.1 h2).1
    obtain ⟨ao', cap', e0, _, _, h4⟩ := HL.out.upd HU.out
    injection e0 with e0 _ e2
    subst e0 e2
    obtain ⟨q, rfl, c0, c1⟩ := h4 i t h2
    clear h4 h1 h2 h3
    go_wp2_with fail
    go_ret2
    rw [HF.out]
    exact ⟨rfl, HU.out⟩

def LightO (l : List Tg) : Bool := (l.take 60).all (fun t => decide (t.s.size ≤ 400)) && decide (l.length ≤ 50)
theorem LightO_spec {l : List Tg} (h : LightO l = true) : l.length ≤ 50 ∧ ∀ t ∈ l, t.s.size ≤ 400 := by
  simp only [LightO, Bool.and_eq_true, decide_eq_true_eq, List.all_eq_true] at h
  refine ⟨h.2, fun t ht => h.1 t ?_⟩
  rwa [List.take_of_length_le (by omega)]

set_option maxHeartbeats 1000000 in
theorem lightO_any (l : List Tg) (v : Value) (w : World) (hl : TgsAt w v l) (hs : ∀ t ∈ l, t.s.size ≤ 140737488355328) :
    Calls Tryz.prog 4 #[v] w fun e w' => e = .returned (.bool (LightO l)) ∧ Upd [] w w' := by
  obtain ⟨ao, cap, rfl, h1, h2, -⟩ := id hl
  obtain ⟨n, hn⟩ : ∃ n, n = l.length := ⟨_, rfl⟩
  have HQ : Hid (LightO l = ((l.take 60).all (fun t => decide (t.s.size ≤ 400)) && decide (n ≤ 50))) := by show _ = _; rw [hn]; rfl
  rw [← hn] at h1
  rw [← hn]
  have HL := Lib.hid hl
  have HN := Lib.hid hn
  have HS := Lib.hid hs
  simp only [maxLen] at h2
  clear hl hn hs
  go_enter Tryz.func4, Tryz.ntmps4
  go_wp2
  go_loopg [3] 60 (fun m s3 wr => ∃ k : Nat, k + m = 60 ∧ k ≤ n ∧ s3 = .int .i64 k ∧ (l.take k).all (fun t => decide (t.s.size ≤ 400)) = true ∧ wr = w)
  case atStart => exact ⟨0, by omega, by omega, rfl, rfl, rfl⟩
  case round =>
    obtain ⟨k, hk, hkn, rfl, hb, rfl⟩ := hrel
    by_cases t : k < n
    · by_cases t2 : k < 60
      · obtain ⟨x, hx⟩ : ∃ x, l[k]? = some x := by
          have := HN.out
          exact ⟨_, List.getElem?_eq_getElem (by omega)⟩
        have hsz := HS.out x (List.mem_of_getElem? hx)
        obtain ⟨ao', cap', e0, _, _, h3⟩ := HL.out
        injection e0 with e0 _ e2
        subst e0 e2
        obtain ⟨q, rfl, c0, c1⟩ := h3 k x hx
        clear h3
        by_cases t3 : 400 < x.s.size
        · have HF : Hid (LightO l = false) := by
            show _ = _
            have hx2 : (l.take 60).all (fun t => decide (t.s.size ≤ 400)) = false := by
              rw [List.all_eq_false]
              exact ⟨x, List.mem_of_getElem? (i := k) (by rw [List.getElem?_take, if_pos t2]; exact hx), by simp; omega⟩
            rw [HQ.out, hx2]; rfl
          have t3' : (400 : Int) < x.s.size := by omega
          clear hx
          go_wp2
          go_ret
          rw [HF.out]
          exact ⟨rfl, Upd.refl _ _⟩
        · have t3' : ¬ (400 : Int) < x.s.size := by omega
          have HX : Hid ((l.take (k + 1)).all (fun t => decide (t.s.size ≤ 400)) = true) := by
            show _ = _
            obtain ⟨h5, h6⟩ := List.getElem?_eq_some_iff.1 hx
            rw [List.take_succ_eq_append_getElem h5, h6, List.all_append, hb]
            simp; omega
          clear hx hb
          go_wp2
          go_roundg (60 - (k + 1))
          case rel => exact ⟨k + 1, by omega, by omega, by go_num, HX.out, rfl⟩
          case measure => omega
      · obtain rfl : k = 60 := by omega
        have HF : Hid (LightO l = false) := by
          show _ = _
          rw [HQ.out, decide_eq_false (by omega), Bool.and_false]
        have t3 : ¬ ((n : Int) ≤ 50) := by omega
        go_wp2
        go_ret
        rw [HF.out]
        exact ⟨rfl, Upd.refl _ _⟩
    · obtain rfl : k = n := by omega
      have HF : Hid (LightO l = decide (k ≤ 50)) := by
        show _ = _
        have h1 := HN.out
        rw [List.take_of_length_le (by omega)] at hb
        rw [HQ.out, List.take_of_length_le (by omega), hb, Bool.true_and]
      clear hb
      by_cases t3 : k ≤ 50
      · have t3' : (k : Int) ≤ 50 := by omega
        have t4 := Lib.hid (decide_eq_true t3)
        go_wp2
        go_ret
        rw [HF.out, t4.out]
        exact ⟨rfl, Upd.refl _ _⟩
      · have t3' : ¬ (k : Int) ≤ 50 := by omega
        have t4 := Lib.hid (decide_eq_false t3)
        go_wp2
        go_ret
        rw [HF.out, t4.out]
        exact ⟨rfl, Upd.refl _ _⟩

theorem TgsAt.of_blk {w : World} {g : Nat} {t : TypeId} {l : List Tg} (h : Blk w g t (tgCells l).toArray) (hl : l.length ≤ maxLen) : TgsAt w (.slice (some ⟨g, 0, none⟩) l.length l.length) l := by
  refine ⟨_, _, rfl, Nat.le_refl _, hl, fun i x hx => ?_⟩
  obtain ⟨k1, k2⟩ := tgCells_get l i hx
  refine ⟨_, rfl, ?_, ?_⟩
  · rw [add_plain, h.cell, Nat.zero_add]; simpa using k1
  · rw [add_plain]
    show w.cell? ⟨g, 0 + i * 2 + 1, none⟩ = _
    rw [h.cell, Nat.zero_add]; simpa using k2

def aliveB : ByteArray := ⟨#[1, 1, 0, 8, 1, 4, 5, 220]⟩
def aliveO : ByteArray := ⟨#[5, 220]⟩
def filling : ByteArray := ⟨#[102, 105, 108, 108, 105, 110, 103]⟩
theorem alive_put : Pk.put ⟨1, 1, [⟨1, aliveO⟩], ⟨#[]⟩⟩ = (aliveB, 0) := by decide +kernel
theorem alive_get : Pk.get (aliveB ++ filling) = (⟨1, 1, [⟨1, aliveO⟩], ⟨#[]⟩⟩, 0) := by decide +kernel
theorem alive_value : valueB ⟨#[1, 0]⟩ = (256, true) := by decide +kernel

set_option maxHeartbeats 2000000 in
theorem alive_any (w : World) : Calls Tryz.prog 5 #[] w fun e w' => e = .returned (.bool true) ∧ Upd [] w w' := by
  go_enter Tryz.func5, Tryz.ntmps5
  go_wp2_with fail
  have h0 : TgsAt (w.alloc (.cells #[.int .i64 1, .string aliveO] 67)) (.slice (some ⟨w.heap.size, 0, none⟩) 1 1) [⟨1, aliveO⟩] := TgsAt.of_blk (l := [⟨1, aliveO⟩]) (Blk.new _ _ _) (by decide)
  refine (optsPut_any ⟨1, 1, [⟨1, aliveO⟩], ⟨#[]⟩⟩ _ _ h0 (by decide) (by decide)).mono ?_
  rintro e w1 ⟨rfl, hu1⟩
  rw [alive_put]
  have HU1 := Lib.hid (((Upd.refl [] w).alloc _).trans hu1)
  clear hu1 h0
  have hs := run_string_add_sum (P := Tryz.prog) w1 aliveB ⟨#[102, 105, 108, 108, 105, 110, 103]⟩ (by decide)
  go_wp2_with fail
  refine (optsGet_any (aliveB ++ filling) (by decide) _).mono ?_
  rintro e w2 ⟨v2, own2, rfl, hown, hin, hu2⟩
  rw [alive_get] at hown
  rw [alive_get]
  simp only [Pk.val]
  simp only at hown
  obtain ⟨g, off, cap, rfl, -, -, -, hc⟩ := hown.form (by decide)
  have hc1 := hc 1 _ rfl
  have HU2 := Lib.hid (HU1.out.trans hu2)
  have hlt := cell_lt hc1
  simp only at hlt
  clear hu2 HU1 hs hc hown hin
  go_wp2_with fail
  refine (value_any ⟨#[1, 0]⟩ (by decide) _).mono ?_
  rintro e w3 ⟨rfl, rfl⟩
  rw [alive_value]
  have ha : aliveB.toList = [1, 1, 0, 8, 1, 4, 5, 220] := by decide +kernel
  have ha2 : aliveO.toList = [5, 220] := by decide +kernel
  go_wp2_with fail
  go_ret
  exact ⟨rfl, HU2.out.alloc _⟩
end Go.Proofs.YthkfgjmifoeljaaGreat
