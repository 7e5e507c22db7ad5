/- The walks of slices.IndexFunc, slices.ContainsFunc at tags, of PutTags' test, of Light. -/
import Derived.Test.YtomnnnjahpoggaaGreatTagG
namespace Go.Proofs.YtomnnnjahpoggaaGreat
open Go.RowKit
set_option maxRecDepth 100000

def Tg.val (t : Tg) : Value := .agg #[.int .i64 t.k, .string t.s]
/-- The place of the first one that is so, or -1. -/
def ixf (p : Tg → Bool) : List Tg → Nat → Int
  | [], _ => -1
  | t :: l, k => if p t = true then k else ixf p l (k + 1)
theorem ixf_any (p : Tg → Bool) (l : List Tg) (k : Nat) : decide (0 ≤ ixf p l k) = l.any p := by
  induction l generalizing k with
  | nil => simp [ixf]
  | cons t l ih =>
    rw [ixf, List.any_cons]
    cases h : p t with
    | true => simp
    | false => simp [ih]

set_option maxHeartbeats 1000000 in
theorem indexFunc_any (f : Nat) (p : Tg → Bool) (l : List Tg) (v : Value) (w : World) (hl : TgsAt w v l)
    (hcf : ∀ x W, (callFunc f #[x]).run Tryz.prog W = .ok (.enter f #[x]) W)
    (hf : ∀ t ∈ l, ∀ W : World, Calls Tryz.prog f #[t.val] W fun e w' => e = .returned (.bool (p t)) ∧ Upd [] W w') :
    Calls Tryz.prog 109 #[v, .func (.func f) #[] #[]] w fun e w' => e = .returned (.int .i64 (ixf p l 0)) ∧ Upd [] w w' := by
  obtain ⟨ao, cap, rfl, h1, h2, h3⟩ := id hl
  obtain ⟨n, hn⟩ : ∃ n, n = l.length := ⟨_, rfl⟩
  rw [← hn] at h1
  rw [← hn]
  have HL := Lib.hid hl
  have HN := Lib.hid hn
  have HF := Lib.hid hf
  simp only [maxLen] at h2
  clear h3 hl hn hf
  go_enter Tryz.func109, Tryz.ntmps109
  go_wp2
  go_loopg [8] n (fun m s8 wr => ∃ k : Nat, k + m = n ∧ s8 = .int .i64 k ∧ ixf p (l.drop k) k = ixf p l 0 ∧ Upd [] w wr)
  case atStart => exact ⟨0, by omega, rfl, rfl, Upd.refl _ _⟩
  case round =>
    obtain ⟨k, hk, rfl, hi, hu⟩ := hrel
    by_cases t : k < n
    · obtain ⟨x, hx⟩ : ∃ x, l[k]? = some x := by
        have := HN.out
        exact ⟨_, List.getElem?_eq_getElem (by omega)⟩
      have HC := Lib.hid (HF.out x (List.mem_of_getElem? hx))
      obtain ⟨ao', cap', e0, _, _, h3⟩ := HL.out.upd hu
      injection e0 with e0 _ e2
      subst e0 e2
      obtain ⟨q, rfl, c0, c1⟩ := h3 k x hx
      clear h3
      have hd : l.drop k = x :: l.drop (k + 1) := by
        obtain ⟨h5, h6⟩ := List.getElem?_eq_some_iff.1 hx
        rw [List.drop_eq_getElem_cons h5, h6]
      rw [hd, ixf] at hi
      have HI := Lib.hid hi
      have HU := Lib.hid hu
      clear hi hd hu hx
      by_cases t1 : p x = true
      · go_wp2_with fail
        refine (HC.out _).mono ?_
        rintro e w' ⟨rfl, hu2⟩
        rw [t1]
        have HU2 := Lib.hid (HU.out.trans hu2)
        clear hu2
        go_wp2
        go_ret
        exact ⟨by rw [← HI.out, if_pos t1]; rfl, HU2.out⟩
      · have t1 : p x = false := by simpa using t1
        go_wp2_with fail
        refine (HC.out _).mono ?_
        rintro e w' ⟨rfl, hu2⟩
        rw [t1]
        have HU2 := Lib.hid (HU.out.trans hu2)
        clear hu2
        go_wp2
        go_roundg (n - (k + 1))
        case rel => exact ⟨k + 1, by omega, by go_num, by rw [← HI.out, if_neg (by simp [t1])], HU2.out⟩
        case measure => omega
    · obtain rfl : k = n := by omega
      have hd : l.drop k = [] := by rw [HN.out]; simp
      rw [hd] at hi
      have HI := Lib.hid hi
      clear hi hd
      go_wp2
      go_ret
      exact ⟨by rw [← HI.out]; rfl, hu⟩

set_option maxHeartbeats 1000000 in
theorem containsFunc_any (f : Nat) (p : Tg → Bool) (l : List Tg) (v : Value) (w : World) (hl : TgsAt w v l)
    (hcf : ∀ x W, (callFunc f #[x]).run Tryz.prog W = .ok (.enter f #[x]) W)
    (hf : ∀ t ∈ l, ∀ W : World, Calls Tryz.prog f #[t.val] W fun e w' => e = .returned (.bool (p t)) ∧ Upd [] W w') :
    Calls Tryz.prog 30 #[v, .func (.func f) #[] #[]] w fun e w' => e = .returned (.bool (l.any p)) ∧ Upd [] w w' := by
  have HL := Lib.hid hl
  have HF := Lib.hid hf
  have HCF := Lib.hid hcf
  have H1 := Lib.hid (ixf_any p l 0)
  clear hf hl hcf
  go_enter Tryz.func30, Tryz.ntmps30
  go_wp2_with fail
  refine (indexFunc_any f p l v _ HL.out HCF.out HF.out).mono ?_
  rintro e w' ⟨rfl, hu⟩
  go_wp2
  go_ret
  exact ⟨by rw [← H1.out]; rfl, hu⟩

def Tg.wrong (t : Tg) : Bool := !(decide (1 ≤ t.k) && decide (t.k ≤ 65535))
set_option maxHeartbeats 400000 in
theorem putTags1_any (t : Tg) (w : World) :
    Calls Tryz.prog 31 #[t.val] w fun e w' => e = .returned (.bool t.wrong) ∧ Upd [] w w' := by
  obtain ⟨k, s⟩ := t
  simp only [Tg.val, Tg.wrong]
  go_enter Tryz.func31, Tryz.ntmps31
  go_wp2_with (go_at_call 23; refine (tagIn_any _ _ _ _).mono ?_; rintro e w' ⟨rfl, rfl⟩)
  go_ret
  exact ⟨by simp, (Upd.refl _ _).alloc _⟩

/-- The sizes' sum of the first k. -/
def lenSum (l : List Tg) (k : Nat) : Nat := ((l.take k).map fun t => t.s.size).sum
def Light (l : List Tg) : Bool := decide (l.length ≤ 40) && decide (lenSum l 50 ≤ 9000)
theorem lenSum_succ (l : List Tg) (k : Nat) (t : Tg) (h : l[k]? = some t) : lenSum l (k + 1) = lenSum l k + t.s.size := by
  obtain ⟨h5, h6⟩ := List.getElem?_eq_some_iff.1 h
  unfold lenSum
  rw [List.take_succ_eq_append_getElem h5, h6]
  simp

set_option maxHeartbeats 1000000 in
theorem light_any (l : List Tg) (v : Value) (w : World) (hl : TgsAt w v l) (hs : ∀ t ∈ l, t.s.size ≤ 140737488355328) :
    Calls Tryz.prog 4 #[v] w fun e w' => e = .returned (.bool (Light l)) ∧ Upd [] w w' := by
  obtain ⟨ao, cap, rfl, h1, h2, h3⟩ := id hl
  obtain ⟨n, hn⟩ : ∃ n, n = l.length := ⟨_, rfl⟩
  have HQ : Hid (Light l = (decide (n ≤ 40) && decide (lenSum l 50 ≤ 9000))) := by show _ = _; rw [hn]; rfl
  rw [HQ.out]
  rw [← hn] at h1
  rw [← hn]
  have HL := Lib.hid hl
  have HN := Lib.hid hn
  have HS := Lib.hid hs
  simp only [maxLen] at h2
  clear h3 hl hn hs
  go_enter Tryz.func4, Tryz.ntmps4
  go_wp2
  go_loopg [3, 4] (50 - 0) (fun m s3 s4 wr => ∃ k : Nat, k + m = 50 ∧ k ≤ n ∧ s4 = .int .i64 k ∧ s3 = .int .i64 (lenSum l k) ∧ lenSum l k ≤ k * 140737488355328 ∧ wr = w)
  case atStart => exact ⟨0, by omega, by omega, rfl, rfl, by simp [lenSum], rfl⟩
  case round =>
    obtain ⟨k, hk, hkn, rfl, rfl, hb, rfl⟩ := hrel
    by_cases t : k < n
    · by_cases t2 : k < 50
      · obtain ⟨x, hx⟩ : ∃ x, l[k]? = some x := by
          have := HN.out
          exact ⟨_, List.getElem?_eq_getElem (by omega)⟩
        have hsz := HS.out x (List.mem_of_getElem? hx)
        obtain ⟨ao', cap', e0, _, _, h3⟩ := HL.out
        injection e0 with e0 _ e2
        subst e0 e2
        obtain ⟨q, rfl, c0, c1⟩ := h3 k x hx
        clear h3
        have HX := Lib.hid (lenSum_succ l k x hx)
        clear hx
        have hb2 : lenSum l k + x.s.size ≤ (k + 1) * 140737488355328 := by rw [Nat.add_mul]; omega
        go_wp2
        go_roundg (50 - (k + 1))
        case rel => exact ⟨k + 1, by omega, by omega, by go_num, by rw [HX.out]; go_num, by rw [HX.out]; exact hb2, rfl⟩
        case measure => omega
      · obtain rfl : k = 50 := by omega
        have t3 : ¬ ((n : Int) ≤ 40) := by omega
        have HQ3 : Hid (decide (n ≤ 40) = false) := by show _ = _; simp; omega
        go_wp2
        go_ret
        exact ⟨by rw [HQ3.out]; rfl, Upd.refl _ _⟩
    · obtain rfl : k = n := by omega
      have HQ2 : Hid (lenSum l 50 = lenSum l k) := by
        show _ = _
        have := HN.out
        unfold lenSum
        rw [List.take_of_length_le (by omega), List.take_of_length_le (by omega)]
      by_cases t3 : k ≤ 40
      · have t3' : (k : Int) ≤ 40 := by omega
        have HQ3 : Hid (decide (k ≤ 40) = true) := by show _ = _; simp; omega
        go_wp2
        go_ret
        exact ⟨by rw [HQ3.out, HQ2.out]; simp; omega, Upd.refl _ _⟩
      · have t3' : ¬ (k : Int) ≤ 40 := by omega
        have HQ3 : Hid (decide (k ≤ 40) = false) := by show _ = _; simp; omega
        go_wp2
        go_ret
        exact ⟨rfl, Upd.refl _ _⟩
end Go.Proofs.YtomnnnjahpoggaaGreat
