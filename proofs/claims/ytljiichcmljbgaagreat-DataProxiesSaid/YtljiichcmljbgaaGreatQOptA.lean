/- The walks of slices.Equal, slices.IndexFunc, slices.ContainsFunc at options, of opts.in, opts.Same. The walk of opts.Value. The walks of opts.PutOptions, its test, opts.Value, opts.hasOptions. Plain: pairs that lie in a slice, as cells. No program in sight. The walk of opts.GetOptions. Plain: options that were put are got (for seats without opts' packets). -/
import Derived.Test.YtljiichcmljbgaaGreatProg
import Derived.Test.YtljiichcmljbgaaGreatQLib
import Derived.Test.YtljiichcmljbgaaGreatQFacts
namespace Go.Proofs.YtljiichcmljbgaaGreat
open Go.RowKit
set_option maxRecDepth 100000
set_option linter.unusedSimpArgs false

set_option maxHeartbeats 1000000 in
theorem equal_any (l m : List Tg) (v u : Value) (w : World) (hl : TgsAt w v l) (hm : TgsAt w u m) :
    Calls Tryz.prog 128 #[v, u] w fun e w' => e = .returned (.bool (decide (l = m))) ∧ Upd [] w w' := by
  obtain ⟨ao, cap, rfl, h1, h2, h3⟩ := id hl
  obtain ⟨bo, cbp, rfl, g1, g2, g3⟩ := id hm
  obtain ⟨n, hn⟩ : ∃ n, n = l.length := ⟨_, rfl⟩
  obtain ⟨j, hj⟩ : ∃ n, n = m.length := ⟨_, rfl⟩
  rw [← hn] at h1
  rw [← hj] at g1
  rw [← hn, ← hj]
  have HL := Lib.hid hl
  have HM := Lib.hid hm
  have HN := Lib.hid hn
  have HJ := Lib.hid hj
  simp only [maxLen] at h2 g2
  clear h3 g3 hl hn hm hj
  by_cases tn : n = j
  rotate_left
  · have hne : Hid (decide (l = m) = false) := by
      show _ = _
      rw [decide_eq_false_iff_not]
      rintro rfl
      exact tn (HN.out.trans HJ.out.symm)
    rw [hne.out]
    go_enter Tryz.func128, Tryz.ntmps128
    go_wp2
    go_ret
    exact ⟨rfl, Upd.refl _ _⟩
  subst tn
  go_enter Tryz.func128, Tryz.ntmps128
  go_wp2
  go_loopg [13] n (fun x s13 wr => ∃ k : Nat, k + x = n ∧ s13 = .int .i64 k ∧ l.take k = m.take k ∧ Upd [] w wr)
  case atStart => exact ⟨0, by omega, rfl, rfl, Upd.refl _ _⟩
  case round =>
    obtain ⟨k, hk, rfl, hp, hu⟩ := hrel
    by_cases t : k < n
    · obtain ⟨x, hx⟩ : ∃ x, l[k]? = some x := by
        have := HN.out
        exact ⟨_, List.getElem?_eq_getElem (by omega)⟩
      obtain ⟨y, hy⟩ : ∃ x, m[k]? = some x := by
        have := HJ.out
        exact ⟨_, List.getElem?_eq_getElem (by omega)⟩
      obtain ⟨ao', cap', e0, _, _, h3⟩ := HL.out.upd hu
      injection e0 with e0 _ e2
      subst e0 e2
      obtain ⟨q, rfl, c0, c1⟩ := h3 k x hx
      clear h3
      obtain ⟨ao', cap', e0, _, _, h3⟩ := HM.out.upd hu
      injection e0 with e0 _ e2
      subst e0 e2
      obtain ⟨q', rfl, d0, d1⟩ := h3 k y hy
      clear h3
      have HX := Lib.hid (And.intro hx (And.intro hy (And.intro hp hu)))
      clear hx hy hp hu
      go_wp2
      by_cases hk : x.k = y.k ∧ x.s.toList = y.s.toList
      · obtain ⟨hk1, hk2⟩ := hk
        go_region
        go_wp2
        go_roundg (n - (k + 1))
        case rel =>
          refine ⟨k + 1, by omega, by go_num, ?_, HX.out.2.2.2.drew⟩
          rw [List.take_add_one, List.take_add_one, HX.out.2.2.1, HX.out.1, HX.out.2.1]
          have : x = y := by
            cases x; cases y
            simp only [str_inj] at hk1 hk2
            rw [hk1, hk2]
          rw [this]
        case measure => omega
      · have he : Hid (decide (l = m) = false) := by
          show _ = _
          rw [decide_eq_false_iff_not]
          rintro rfl
          have := HX.out.1.symm.trans HX.out.2.1
          injection this with this
          subst this
          exact hk ⟨rfl, rfl⟩
        by_cases hk1 : x.k = y.k
        · have hk2 : ¬ x.s.toList = y.s.toList := fun h => hk ⟨hk1, h⟩
          clear hk
          go_region
          go_wp2
          go_ret
          rw [he.out]
          exact ⟨rfl, HX.out.2.2.2.drew⟩
        · clear hk
          go_region
          go_wp2
          go_ret
          rw [he.out]
          exact ⟨rfl, HX.out.2.2.2.drew⟩
    · obtain rfl : k = n := by omega
      have he : Hid (decide (l = m) = true) := by
        show _ = _
        rw [decide_eq_true_iff]
        have h7 := hp
        rw [List.take_of_length_le (by rw [← HN.out]; exact Nat.le_refl _), List.take_of_length_le (by rw [← HJ.out]; exact Nat.le_refl _)] at h7
        exact h7
      clear hp
      go_wp2
      go_ret
      rw [he.out]
      exact ⟨rfl, hu⟩
def Tg.val (t : Tg) : Value := .agg #[.int .i64 t.k, .string t.s]
/-- The place of the first one that is so, or -1. -/
def ixf (p : Tg → Bool) : List Tg → Nat → Int
  | [], _ => -1
  | t :: l, k => if p t = true then k else ixf p l (k + 1)
theorem ixf_any (p : Tg → Bool) (l : List Tg) (k : Nat) : decide (0 ≤ ixf p l k) = l.any p := by
  induction l generalizing k with
  | nil => simp [ixf]
  | cons t l ih =>
    rw [ixf, List.any_cons]
    cases h : p t with
    | true => simp
    | false => simp [ih]

set_option maxHeartbeats 1000000 in
theorem indexFunc_any (f : Nat) (p : Tg → Bool) (l : List Tg) (v : Value) (w : World) (hl : TgsAt w v l)
    (hcf : ∀ x W, (callFunc f #[x]).run Tryz.prog W = .ok (.enter f #[x]) W)
    (hf : ∀ t ∈ l, ∀ W : World, Calls Tryz.prog f #[t.val] W fun e w' => e = .returned (.bool (p t)) ∧ Upd [] W w') :
    Calls Tryz.prog 165 #[v, .func (.func f) #[] #[]] w fun e w' => e = .returned (.int .i64 (ixf p l 0)) ∧ Upd [] w w' := by
  obtain ⟨ao, cap, rfl, h1, h2, h3⟩ := id hl
  obtain ⟨n, hn⟩ : ∃ n, n = l.length := ⟨_, rfl⟩
  rw [← hn] at h1
  rw [← hn]
  have HL := Lib.hid hl
  have HN := Lib.hid hn
  have HF := Lib.hid hf
  simp only [maxLen] at h2
  clear h3 hl hn hf
  go_enter Tryz.func165, Tryz.ntmps165
  go_wp2
  go_loopg [8] n (fun m s8 wr => ∃ k : Nat, k + m = n ∧ s8 = .int .i64 k ∧ ixf p (l.drop k) k = ixf p l 0 ∧ Upd [] w wr)
  case atStart => exact ⟨0, by omega, rfl, rfl, Upd.refl _ _⟩
  case round =>
    obtain ⟨k, hk, rfl, hi, hu⟩ := hrel
    by_cases t : k < n
    · obtain ⟨x, hx⟩ : ∃ x, l[k]? = some x := by
        have := HN.out
        exact ⟨_, List.getElem?_eq_getElem (by omega)⟩
      have HC := Lib.hid (HF.out x (List.mem_of_getElem? hx))
      obtain ⟨ao', cap', e0, _, _, h3⟩ := HL.out.upd hu
      injection e0 with e0 _ e2
      subst e0 e2
      obtain ⟨q, rfl, c0, c1⟩ := h3 k x hx
      clear h3
      have hd : l.drop k = x :: l.drop (k + 1) := by
        obtain ⟨h5, h6⟩ := List.getElem?_eq_some_iff.1 hx
        rw [List.drop_eq_getElem_cons h5, h6]
      rw [hd, ixf] at hi
      have HI := Lib.hid hi
      have HU := Lib.hid hu
      clear hi hd hu hx
      by_cases t1 : p x = true
      · go_wp2_with fail
        refine (HC.out _).mono ?_
        rintro e w' ⟨rfl, hu2⟩
        rw [t1]
        have HU2 := Lib.hid (HU.out.trans hu2)
        clear hu2
        go_wp2
        go_ret
        exact ⟨by rw [← HI.out, if_pos t1]; rfl, HU2.out⟩
      · have t1 : p x = false := by simpa using t1
        go_wp2_with fail
        refine (HC.out _).mono ?_
        rintro e w' ⟨rfl, hu2⟩
        rw [t1]
        have HU2 := Lib.hid (HU.out.trans hu2)
        clear hu2
        go_wp2
        go_roundg (n - (k + 1))
        case rel => exact ⟨k + 1, by omega, by go_num, by rw [← HI.out, if_neg (by simp [t1])], HU2.out⟩
        case measure => omega
    · obtain rfl : k = n := by omega
      have hd : l.drop k = [] := by rw [HN.out]; simp
      rw [hd] at hi
      have HI := Lib.hid hi
      clear hi hd
      go_wp2
      go_ret
      exact ⟨by rw [← HI.out]; rfl, hu⟩

set_option maxHeartbeats 1000000 in
theorem containsFunc_any (f : Nat) (p : Tg → Bool) (l : List Tg) (v : Value) (w : World) (hl : TgsAt w v l)
    (hcf : ∀ x W, (callFunc f #[x]).run Tryz.prog W = .ok (.enter f #[x]) W)
    (hf : ∀ t ∈ l, ∀ W : World, Calls Tryz.prog f #[t.val] W fun e w' => e = .returned (.bool (p t)) ∧ Upd [] W w') :
    Calls Tryz.prog 119 #[v, .func (.func f) #[] #[]] w fun e w' => e = .returned (.bool (l.any p)) ∧ Upd [] w w' := by
  have HL := Lib.hid hl
  have HF := Lib.hid hf
  have HCF := Lib.hid hcf
  have H1 := Lib.hid (ixf_any p l 0)
  clear hf hl hcf
  go_enter Tryz.func119, Tryz.ntmps119
  go_wp2_with fail
  refine (indexFunc_any f p l v _ HL.out HCF.out HF.out).mono ?_
  rintro e w' ⟨rfl, hu⟩
  go_wp2
  go_ret
  exact ⟨by rw [← H1.out]; rfl, hu⟩

set_option maxHeartbeats 400000 in
theorem same_any (l m : List Tg) (v u : Value) (w : World) (hl : TgsAt w v l) (hm : TgsAt w u m) :
    Calls Tryz.prog 37 #[v, u] w fun e w' => e = .returned (.bool (decide (l = m))) ∧ Upd [] w w' := by
  have HL := Lib.hid hl
  have HM := Lib.hid hm
  clear hl hm
  go_enter Tryz.func37, Tryz.ntmps37
  go_wp2_with fail
  refine (equal_any l m _ _ _ HL.out HM.out).mono ?_
  rintro e w1 ⟨rfl, hu1⟩
  go_wp2_with fail
  go_ret
  exact ⟨rfl, hu1⟩

set_option maxHeartbeats 1000000 in
theorem indexFuncC_any (f : Nat) (c : Value) (p : Tg → Bool) (l : List Tg) (v : Value) (w : World) (hl : TgsAt w v l)
    (hcf : ∀ x W, (callFunc f #[x, c]).run Tryz.prog W = .ok (.enter f #[x, c]) W)
    (hf : ∀ t ∈ l, ∀ W : World, Upd [] w W → Calls Tryz.prog f #[t.val, c] W fun e w' => e = .returned (.bool (p t)) ∧ Upd [] W w') :
    Calls Tryz.prog 165 #[v, .func (.func f) #[] #[c]] w fun e w' => e = .returned (.int .i64 (ixf p l 0)) ∧ Upd [] w w' := by
  obtain ⟨ao, cap, rfl, h1, h2, h3⟩ := id hl
  obtain ⟨n, hn⟩ : ∃ n, n = l.length := ⟨_, rfl⟩
  rw [← hn] at h1
  rw [← hn]
  have HL := Lib.hid hl
  have HN := Lib.hid hn
  have HF := Lib.hid hf
  simp only [maxLen] at h2
  clear h3 hl hn hf
  go_enter Tryz.func165, Tryz.ntmps165
  go_wp2
  go_loopg [8] n (fun m s8 wr => ∃ k : Nat, k + m = n ∧ s8 = .int .i64 k ∧ ixf p (l.drop k) k = ixf p l 0 ∧ Upd [] w wr)
  case atStart => exact ⟨0, by omega, rfl, rfl, Upd.refl _ _⟩
  case round =>
    obtain ⟨k, hk, rfl, hi, hu⟩ := hrel
    by_cases t : k < n
    · obtain ⟨x, hx⟩ : ∃ x, l[k]? = some x := by
        have := HN.out
        exact ⟨_, List.getElem?_eq_getElem (by omega)⟩
      have HC := Lib.hid (HF.out x (List.mem_of_getElem? hx))
      obtain ⟨ao', cap', e0, _, _, h3⟩ := HL.out.upd hu
      injection e0 with e0 _ e2
      subst e0 e2
      obtain ⟨q, rfl, c0, c1⟩ := h3 k x hx
      clear h3
      have hd : l.drop k = x :: l.drop (k + 1) := by
        obtain ⟨h5, h6⟩ := List.getElem?_eq_some_iff.1 hx
        rw [List.drop_eq_getElem_cons h5, h6]
      rw [hd, ixf] at hi
      have HI := Lib.hid hi
      have HU := Lib.hid hu
      clear hi hd hu hx
      by_cases t1 : p x = true
      · go_wp2_with fail
        refine (HC.out _ HU.out).mono ?_
        rintro e w' ⟨rfl, hu2⟩
        rw [t1]
        have HU2 := Lib.hid (HU.out.trans hu2)
        clear hu2
        go_wp2
        go_ret
        exact ⟨by rw [← HI.out, if_pos t1]; rfl, HU2.out⟩
      · have t1 : p x = false := by simpa using t1
        go_wp2_with fail
        refine (HC.out _ HU.out).mono ?_
        rintro e w' ⟨rfl, hu2⟩
        rw [t1]
        have HU2 := Lib.hid (HU.out.trans hu2)
        clear hu2
        go_wp2
        go_roundg (n - (k + 1))
        case rel => exact ⟨k + 1, by omega, by go_num, by rw [← HI.out, if_neg (by simp [t1])], HU2.out⟩
        case measure => omega
    · obtain rfl : k = n := by omega
      have hd : l.drop k = [] := by rw [HN.out]; simp
      rw [hd] at hi
      have HI := Lib.hid hi
      clear hi hd
      go_wp2
      go_ret
      exact ⟨by rw [← HI.out]; rfl, hu⟩

set_option maxHeartbeats 400000 in
theorem optsIn_any (n a b : Int) (w : World) :
    Calls Tryz.prog 121 #[.int .i64 n, .int .i64 a, .int .i64 b] w fun e w' => e = .returned (.bool (decide (a ≤ n) && decide (n ≤ b))) ∧ w = w' := by
  go_enter Tryz.func121, Tryz.ntmps121
  go_wp2
  all_goals
    go_ret
    refine ⟨?_, rfl⟩
    simp_all
    try omega
end Go.Proofs.YtljiichcmljbgaaGreat
namespace Go.Proofs.YtljiichcmljbgaaGreat
open Go.RowKit
set_option maxRecDepth 100000
set_option linter.unusedSimpArgs false
set_option linter.unusedVariables false

theorem or_low7 (a x : Int) (h : 0 ≤ a ∧ a < 281474976710656 ∧ 0 ≤ x ∧ x < 256) : bits .or .i64 (wrap64 (a * 256)) (wrap64 x) = a * 256 + x := by
  obtain ⟨m, rfl⟩ := Int.eq_ofNat_of_zero_le h.1
  obtain ⟨y, rfl⟩ := Int.eq_ofNat_of_zero_le h.2.2.1
  rw [IntWalk.wrap64_in _ (by omega), IntWalk.wrap64_in _ (by omega)]
  have h1 : (BitVec.ofInt 64 ((m : Int) * 256)).toNat = m * 256 := by
    rw [BitVec.toNat_ofInt]
    omega
  have h2 : (BitVec.ofInt 64 (y : Int)).toNat = y := by
    rw [BitVec.toNat_ofInt]
    omega
  show IntKind.i64.wrap ((BitVec.ofInt 64 ((m : Int) * 256) ||| BitVec.ofInt 64 (y : Int)).toNat : Nat) = _
  rw [BitVec.toNat_or, h1, h2, show m * 256 = 2 ^ 8 * m by omega, ← Nat.two_pow_add_eq_or_of_lt (by omega)]
  rw [IntWalk.i64_in _ (by omega)]
  omega

def valueB (s : ByteArray) : Int × Bool := if 7 < s.size then (0, false) else (num s 0 s.size, true)
set_option maxHeartbeats 1000000 in
theorem value_any (s : ByteArray) (hs : s.size ≤ maxLen) (w : World) :
    Calls Tryz.prog 166 #[.string s] w fun e w' => e = .returned (.tuple #[.int .i64 (valueB s).1, .bool (valueB s).2]) ∧ w = w' := by
  simp only [maxLen] at hs
  by_cases t1 : 7 < s.size
  · have HQ : Hid (valueB s = (0, false)) := if_pos t1
    rw [HQ.out]
    go_enter Tryz.func166, Tryz.ntmps166
    go_wp2
    go_ret2
    exact ⟨rfl, rfl⟩
  · have HQ : Hid (valueB s = (num s 0 s.size, true)) := if_neg t1
    rw [HQ.out]
    have t1' : ¬ (7 : Int) < s.size := by omega
    clear HQ
    obtain ⟨n, hn⟩ : ∃ n, n = s.size := ⟨_, rfl⟩
    have HN := Lib.hid hn
    clear hn
    go_enter Tryz.func166, Tryz.ntmps166
    go_wp2
    go_loopg [4, 11] s.size (fun m s4 s11 wr => wr = w ∧ ∃ k : Nat, k + m = s.size ∧ s11 = .int .i64 k ∧ s4 = .int .i64 (num s 0 k))
    case atStart => exact ⟨rfl, 0, by omega, rfl, rfl⟩
    case round =>
      obtain ⟨rfl, k, hk, rfl, rfl⟩ := hrel
      by_cases t : k < s.size
      · have hE : Hid (bits .or .i64 (wrap64 (num s 0 k * 256)) (wrap64 (s[k].toNat : Int)) = num s 0 (k + 1)) := by
          have h1 := num_bd s 0 k
          have h2 := byte_bd s k
          have h3 : (256 : Int) ^ k ≤ 256 ^ 6 := by
            have h4 : k = 0 ∨ k = 1 ∨ k = 2 ∨ k = 3 ∨ k = 4 ∨ k = 5 ∨ k = 6 := by omega
            rcases h4 with h4 | h4 | h4 | h4 | h4 | h4 | h4 <;> rw [h4] <;> decide
          show _ = _
          rw [← byte_get s k (by omega)] at h2
          rw [or_low7 _ _ (by omega), byte_get s k (by omega), num, Nat.zero_add]
        go_wp2
        go_roundg (s.size - (k + 1))
        case rel => exact ⟨rfl, k + 1, by omega, by go_num, by rw [hE.out]⟩
        case measure => omega
      · obtain rfl : k = s.size := by omega
        go_wp2
        go_ret2
        exact ⟨rfl, rfl⟩
end Go.Proofs.YtljiichcmljbgaaGreat
namespace Go.Proofs.YtljiichcmljbgaaGreat
open Go.RowKit
set_option maxRecDepth 100000
set_option linter.unusedSimpArgs false
set_option linter.unusedVariables false

def optWrong (t : Tg) : Bool := !(decide (1 ≤ t.k) && decide (t.k ≤ 255)) || decide (253 < t.s.size)
set_option maxHeartbeats 400000 in
theorem putOptions1_any (t : Tg) (ht : t.s.size ≤ maxLen) (w : World) :
    Calls Tryz.prog 120 #[t.val] w fun e w' => e = .returned (.bool (optWrong t)) ∧ Upd [] w w' := by
  obtain ⟨k, s⟩ := t
  simp only [Tg.val, optWrong]
  simp only [maxLen] at ht
  by_cases t1 : 1 ≤ k ∧ k ≤ 255
  · have h1 : (decide (1 ≤ k) && decide (k ≤ 255)) = true := by simpa using t1
    go_enter Tryz.func120, Tryz.ntmps120
    go_wp2_with (go_at_call 121; refine (optsIn_any _ _ _ _).mono ?_; rintro e w' ⟨rfl, rfl⟩)
    go_ret
    exact ⟨by simp [h1]; omega, (Upd.refl _ _).alloc _⟩
  · have h1 : (decide (1 ≤ k) && decide (k ≤ 255)) = false := by simpa using fun h => by omega
    go_enter Tryz.func120, Tryz.ntmps120
    go_wp2_with (go_at_call 121; refine (optsIn_any _ _ _ _).mono ?_; rintro e w' ⟨rfl, rfl⟩)
    go_ret
    exact ⟨by simp [h1], (Upd.refl _ _).alloc _⟩

def Tg.obytes (t : Tg) : ByteArray := strOfNums [t.k, (t.s.size : Int) + 2] ++ t.s
theorem obytes_size (t : Tg) : t.obytes.size = 2 + t.s.size := by simp [Tg.obytes, ByteArray.size_append, strOfNums_size]
def encOpts : List Tg → ByteArray
  | [] => ⟨#[]⟩
  | t :: l => t.obytes ++ encOpts l
def putOpts (l : List Tg) : ByteArray × Int :=
  if 30 < l.length then (⟨#[]⟩, 2) else if l.any optWrong = true then (⟨#[]⟩, 1) else (encOpts l, 0)

set_option maxHeartbeats 2000000 in
theorem putOptions_any (l : List Tg) (v : Value) (w : World) (hl : TgsAt w v l) (hs : ∀ t ∈ l, t.s.size ≤ 140737488355328) :
    Calls Tryz.prog 25 #[v] w fun e w' => e = .returned (.tuple #[.string (putOpts l).1, .int .i64 (putOpts l).2]) ∧ Upd [] w w' := by
  obtain ⟨ao, cap, rfl, h1, h2, h3⟩ := id hl
  obtain ⟨n, hn⟩ : ∃ n, n = l.length := ⟨_, rfl⟩
  have HQ : Hid (putOpts l = (if 30 < n then (⟨#[]⟩, 2) else if l.any optWrong = true then (⟨#[]⟩, 1) else (encOpts l, 0))) := by show _ = _; rw [hn]; rfl
  rw [HQ.out]
  rw [← hn] at h1
  rw [← hn]
  have HL := Lib.hid hl
  have HN := Lib.hid hn
  have HS := Lib.hid hs
  have HSM : Hid (∀ t ∈ l, t.s.size ≤ maxLen) := fun t ht => by have := hs t ht; simp only [maxLen]; omega
  simp only [maxLen] at h2
  clear h3 hl hn hs HQ
  by_cases t1 : 30 < n
  · rw [if_pos t1]
    go_enter Tryz.func25, Tryz.ntmps25
    go_wp2_with fail
    go_ret2
    exact ⟨rfl, Upd.refl _ _⟩
  rw [if_neg t1]
  have t1' : ¬ (30 : Int) < n := by omega
  by_cases t2 : l.any optWrong = true
  · rw [if_pos t2]
    have T2 := Lib.hid t2
    clear t2
    go_enter Tryz.func25, Tryz.ntmps25
    go_wp2_with fail
    refine (containsFunc_any 120 optWrong l _ _ (by rw [HN.out]; exact HL.out) (fun _ _ => by kernel_rfl) (fun t ht W => putOptions1_any t (HSM.out t ht) W)).mono ?_
    rintro e w' ⟨rfl, hu⟩
    rw [T2.out]
    go_wp2
    go_ret2
    exact ⟨rfl, hu⟩
  rw [if_neg t2]
  have HW : Hid (∀ t ∈ l, 1 ≤ t.k ∧ t.k ≤ 255 ∧ t.s.size ≤ 253) := by
    show ∀ t ∈ l, 1 ≤ t.k ∧ t.k ≤ 255 ∧ t.s.size ≤ 253
    intro t ht
    have : ¬ optWrong t = true := fun h => t2 (List.any_eq_true.2 ⟨t, ht, h⟩)
    simp [optWrong] at this
    exact ⟨this.1.1, this.1.2, this.2⟩
  have t2' : l.any optWrong = false := by simpa using t2
  have T2 := Lib.hid t2'
  clear t2 t2'
  go_enter Tryz.func25, Tryz.ntmps25
  go_wp2_with fail
  refine (containsFunc_any 120 optWrong l _ _ (by rw [HN.out]; exact HL.out) (fun _ _ => by kernel_rfl) (fun t ht W => putOptions1_any t (HSM.out t ht) W)).mono ?_
  rintro e w1 ⟨rfl, hu⟩
  rw [T2.out]
  go_wp2
  go_loopg [4, 16] n (fun m s4 s16 wr => ∃ k : Nat, k + m = n ∧ s16 = .int .i64 k ∧ ∃ o : ByteArray, s4 = .string o ∧ o.size ≤ k * 255 ∧ o ++ encOpts (l.drop k) = encOpts l ∧ Upd [] w wr)
  case atStart => exact ⟨0, by omega, rfl, ⟨#[]⟩, rfl, by decide, ByteArray.empty_append, hu⟩
  case round =>
    obtain ⟨k, hk, rfl, o, rfl, ho, hp, hu⟩ := hrel
    by_cases t : k < n
    · obtain ⟨x, hx⟩ : ∃ x, l[k]? = some x := by
        have := HN.out
        exact ⟨_, List.getElem?_eq_getElem (by omega)⟩
      have hw := HW.out x (List.mem_of_getElem? hx)
      obtain ⟨ao', cap', e0, _, _, h3⟩ := HL.out.upd hu
      injection e0 with e0 _ e2
      subst e0 e2
      obtain ⟨q, rfl, c0, c1⟩ := h3 k x hx
      clear h3
      have hd : l.drop k = x :: l.drop (k + 1) := by
        obtain ⟨h5, h6⟩ := List.getElem?_eq_some_iff.1 hx
        rw [List.drop_eq_getElem_cons h5, h6]
      rw [hd, encOpts, ← ByteArray.append_assoc] at hp
      have HU := Lib.hid hu
      have HP := Lib.hid hp
      have hob : o.size ≤ 7650 := by have : k * 255 ≤ 30 * 255 := Nat.mul_le_mul_right _ (by omega); omega
      have hw1 := hw.1
      have hw2 := hw.2.1
      have hw3 := hw.2.2
      have HO := Lib.hid ho
      clear hd hu hx hp hw ho
      have hcv := str2 Tryz.underlying147 Tryz.underlying5 Tryz.underlying9 (Blk.new (wr.alloc (Obj.cells #[Value.int IntKind.i64 x.k, Value.string x.s] 131)) 5 #[.int .u8 x.k, .int .u8 ((x.s.size : Int) + 2)])
      have ha1 := run_string_add_sum (P := Tryz.prog) ((wr.alloc (Obj.cells #[Value.int IntKind.i64 x.k, Value.string x.s] 131)).alloc (.cells #[.int .u8 x.k, .int .u8 ((x.s.size : Int) + 2)] 5)) (strOfNums [x.k, (x.s.size : Int) + 2]) x.s (by rw [strOfNums_size]; simp; omega)
      have ha2 := run_string_add_sum (P := Tryz.prog) ((wr.alloc (Obj.cells #[Value.int IntKind.i64 x.k, Value.string x.s] 131)).alloc (.cells #[.int .u8 x.k, .int .u8 ((x.s.size : Int) + 2)] 5)) o (strOfNums [x.k, (x.s.size : Int) + 2] ++ x.s) (by rw [ByteArray.size_append, strOfNums_size]; simp; omega)
      have hz : (wr.alloc (Obj.cells #[Value.int IntKind.i64 x.k, Value.string x.s] 131)).heap.size = wr.heap.size + 1 := by simp
      rw [hz] at hcv
      clear hz
      go_wp2
      go_roundg (n - (k + 1))
      case rel => exact ⟨k + 1, by omega, by go_num, o ++ x.obytes, rfl, by rw [ByteArray.size_append, obytes_size]; have := HO.out; omega, HP.out, (HU.out.alloc _).alloc _⟩
      case measure => omega
    · obtain rfl : k = n := by omega
      have hd : l.drop k = [] := by rw [HN.out]; simp
      rw [hd] at hp
      have hp2 : o = encOpts l := by
        have : encOpts [] = ByteArray.empty := rfl
        rw [this, ByteArray.append_empty] at hp
        exact hp
      have HP := Lib.hid hp2
      clear hp hd hp2
      go_wp2
      go_ret2
      rw [← HP.out]
      exact ⟨rfl, hu⟩

end Go.Proofs.YtljiichcmljbgaaGreat
namespace Go.Proofs.YtljiichcmljbgaaGreat
open Go.RowKit

theorem TgsAt.rd {w : World} {v : Value} {l : List Tg} (h : TgsAt w v l) : Rd w 2 v l.length (tgCells l) := by
  obtain ⟨ao, cap, rfl, h1, h2, h3⟩ := h
  refine ⟨ao, cap, rfl, h1, h2, tgCells_length l, ?_, fun hn => ?_⟩
  · intro u hu
    simp only [tgCells, List.mem_flatMap] at hu
    obtain ⟨t, _, hu⟩ := hu
    simp at hu
    rcases hu with rfl | rfl <;> rfl
  · obtain ⟨q, rfl, _⟩ := h3 0 l[0] (by simp [hn])
    refine ⟨q, rfl, fun j u hj => ?_⟩
    have hjl : j < l.length * 2 := by
      have := (List.getElem?_eq_some_iff.1 hj).1
      simpa using this
    obtain ⟨t, htt⟩ : ∃ t, l[j / 2]? = some t := ⟨_, List.getElem?_eq_getElem (by omega)⟩
    obtain ⟨q', e', k0, k1⟩ := h3 (j / 2) t htt
    injection e' with e'
    subst e'
    obtain ⟨c0, c1⟩ := tgCells_get l (j / 2) htt
    clear htt hjl
    have hj2 : j = j / 2 * 2 ∨ j = j / 2 * 2 + 1 := by omega
    rcases hj2 with h | h
    · rw [← h] at c0 k0
      rw [c0] at hj
      injection hj with hj
      subst hj
      exact k0
    · rw [← h] at c1
      rw [c1] at hj
      injection hj with hj
      subst hj
      rw [← k1]
      congr 1
      rw [show q.add j = q.add (j / 2 * 2 + 1) from congrArg _ h]
      unfold Addr.add
      split
      · omega
      · split
        · rename_i hz; congr 1; omega
        · simp [Nat.add_assoc]
end Go.Proofs.YtljiichcmljbgaaGreat
namespace Go.Proofs.YtljiichcmljbgaaGreat
open Go.RowKit
set_option linter.unusedSimpArgs false
set_option linter.unusedVariables false
set_option maxRecDepth 100000

/-- What options' bytes tell, in m rounds at most. -/
def getOptFrom : Nat → ByteArray → List Tg → List Tg × Int
  | 0, _, out => (out, 0)
  | m + 1, b, out =>
    if b.size = 0 then (out, 0) else if b.size = 1 then ([], 5) else if byte b 0 = 0 ∨ byte b 1 < 2 then ([], 4) else if (b.size : Int) < byte b 1 then ([], 5)
    else if 30 ≤ out.length then ([], 2) else getOptFrom m (b.extract (byte b 1).toNat b.size) (out ++ [⟨byte b 0, b.extract 2 (byte b 1).toNat⟩])
def getOpts (b : ByteArray) : List Tg × Int := getOptFrom b.size b []
theorem getOptFrom_zero (m : Nat) (b : ByteArray) (out : List Tg) (h : b.size = 0) : getOptFrom m b out = (out, 0) := by
  cases m with
  | zero => rfl
  | succ m => rw [getOptFrom, if_pos h]
theorem getOptFrom_step (m : Nat) (b : ByteArray) (out : List Tg) (h0 : b.size ≤ m) (h : b.size ≠ 0) : getOptFrom m b out =
    if b.size = 1 then ([], 5) else if byte b 0 = 0 ∨ byte b 1 < 2 then ([], 4) else if (b.size : Int) < byte b 1 then ([], 5)
    else if 30 ≤ out.length then ([], 2) else getOptFrom (m - 1) (b.extract (byte b 1).toNat b.size) (out ++ [⟨byte b 0, b.extract 2 (byte b 1).toNat⟩]) := by
  cases m with
  | zero => omega
  | succ m => rw [getOptFrom, if_neg h]; rfl

/-- The call gives pairs and an error. -/
def GivesTgs (r : List Tg × Int) (w : World) (e : Ending) (w' : World) : Prop := ∃ v own, e = .returned (.tuple #[v, .int .i64 r.2]) ∧ Own w' 131 2 v r.1.length (tgCells r.1) own ∧ (∀ k, k ∈ own → w.heap.size ≤ k) ∧ Upd [] w w'
theorem info_opt : (Tryz.prog.info? 131).map (fun i => (i.zero, i.size, i.bytes)) = some (some (.agg #[.int .i64 0, .string ⟨#[]⟩]), 2, 24) := by kernel_rfl
theorem tgCells_snoc (l : List Tg) (t : Tg) : tgCells (l ++ [t]) = tgCells l ++ [.int .i64 t.k, .string t.s] := by simp [tgCells]

set_option maxHeartbeats 4000000 in
theorem getOptions_any (b : ByteArray) (hb : b.size ≤ 140737488355328) (w : World) :
    Calls Tryz.prog 126 #[.string b] w (GivesTgs (getOpts b) w) := by
  obtain ⟨i0, hi0, hz0, hz1, hz2⟩ := info_parts info_opt
  go_enter Tryz.func126, Tryz.ntmps126
  go_wp2
  go_loopg [0, 4, 5] b.size (fun m s0 s4 s5 wr => ∃ (M : Nat) (s : ByteArray) (out : List Tg) (ao : Option Addr) (cap : Nat) (own : List Nat), m = M ∧ s0 = .string s ∧ s4 = .slice ao out.length cap ∧ s.size ≤ M ∧ s.size ≤ b.size ∧ out.length ≤ 30 ∧
    Own wr 131 2 (.slice ao out.length cap) out.length (tgCells out) own ∧ (∀ k, k ∈ own → w.heap.size ≤ k) ∧ getOptFrom M s out = getOpts b ∧ Upd [] w wr)
  case atStart => exact ⟨b.size, b, [], none, 0, [], rfl, rfl, rfl, Nat.le_refl _, Nat.le_refl _, by simp, Own.nil _ _ _, by simp, rfl, Upd.refl _ _⟩
  case round =>
    obtain ⟨M, s, out, ao, cap, own, hM, rfl, rfl, hm, hsb, ho, hown, hin, hg, hu⟩ := hrel
    obtain ⟨n, hn⟩ : ∃ n, n = out.length := ⟨_, rfl⟩
    have HN := Lib.hid hn
    have HMM := Lib.hid hM
    clear hM
    by_cases t0 : s.size = 0
    · rw [getOptFrom_zero M s out t0] at hg
      have HG := Lib.hid hg
      have e0 := str_empty_t t0
      have HO := Lib.hid hown
      have T0 := Lib.hid t0
      clear hg hown t0 hn
      go_wp2
      go_ret2
      rw [← HG.out]
      exact ⟨_, own, rfl, HO.out, hin, hu⟩
    rw [getOptFrom_step M s out hm t0] at hg
    have e0 := str_empty_f t0
    by_cases t1 : s.size = 1
    · rw [if_pos t1] at hg
      have HG := Lib.hid hg
      have HO := Lib.hid hown
      have T0 := Lib.hid t0
      have q1 : ((s.size : Int) == 1) = true := by simp; omega
      clear hg hown hn t0 t1
      go_wp2_with fail
      go_ret2
      rw [← HG.out]
      exact ⟨_, [], rfl, Own.nil _ _ _, by simp, hu⟩
    rw [if_neg t1] at hg
    have q1 : ((s.size : Int) == 1) = false := by simp; omega
    have hs2 : 2 ≤ s.size := by omega
    have hb0 := byte_get s 0 (by omega)
    have hb1 := byte_get s 1 (by omega)
    have hy0 := byte_bd s 0
    have hy1 := byte_bd s 1
    rw [← hb0] at hy0 hg
    rw [← hb1] at hy1 hg
    have HB0 := Lib.hid hb0
    have HB1 := Lib.hid hb1
    clear t0 t1 hb0 hb1
    by_cases t2 : (s[0].toNat : Int) = 0
    · rw [if_pos (.inl t2)] at hg
      have HG := Lib.hid hg
      have HO := Lib.hid hown
      have q2 : ((s[0].toNat : Int) == 0) = true := by simpa using t2
      clear hg hown hn t2
      go_wp2_with fail
      go_ret2
      rw [← HG.out]
      exact ⟨_, [], rfl, Own.nil _ _ _, by simp, hu⟩
    have q2 : ((s[0].toNat : Int) == 0) = false := by simpa using t2
    by_cases t3 : (s[1].toNat : Int) < 2
    · rw [if_pos (.inr t3)] at hg
      have HG := Lib.hid hg
      have HO := Lib.hid hown
      clear hg hown hn t2
      go_wp2_with fail
      go_ret2
      rw [← HG.out]
      exact ⟨_, [], rfl, Own.nil _ _ _, by simp, hu⟩
    rw [if_neg (by omega)] at hg
    obtain ⟨j, hj⟩ : ∃ j : Nat, s[1].toNat = j := ⟨_, rfl⟩
    have HJ : Hid ((s[1].toNat : Int) = (j : Int)) := by show _ = _; rw [hj]
    have hwr : True → wrap64 (s[1].toNat : Int) = (j : Int) := fun _ => by rw [HJ.out]; exact IntWalk.wrap64_in _ (by omega)
    rw [hj] at hg hy1
    rw [Int.toNat_natCast] at hg
    have t3' : ¬ (j : Int) < 2 := by omega
    by_cases t4 : (s.size : Int) < (j : Int)
    · rw [if_pos t4] at hg
      have HG := Lib.hid hg
      have HO := Lib.hid hown
      clear hg hown hn t2 hj
      go_wp2_with fail
      go_ret2
      rw [← HG.out]
      exact ⟨_, [], rfl, Own.nil _ _ _, by simp, hu⟩
    rw [if_neg t4] at hg
    by_cases t5 : 30 ≤ out.length
    · rw [if_pos t5] at hg
      have HG := Lib.hid hg
      have HO := Lib.hid hown
      have t5' : (30 : Int) ≤ n := by omega
      rw [← hn]
      clear hg hown hn t2 hj
      go_wp2_with fail
      go_ret2
      rw [← HG.out]
      exact ⟨_, [], rfl, Own.nil _ _ _, by simp, hu⟩
    rw [if_neg t5] at hg
    have t5' : ¬ (30 : Int) ≤ n := by omega
    have HG := Lib.hid hg
    have HO := Lib.hid (hn ▸ hown)
    rw [← hn]
    clear hg hown hn t2 hj t5
    go_wp2_with fail
    clear hwr
    have hxs : (s.extract 2 j).size ≤ 281474976710656 := by rw [ByteArray.size_extract]; omega
    obtain ⟨X, hX⟩ : ∃ X, X = s.extract 2 j := ⟨_, rfl⟩
    rw [← hX] at hxs HG
    have HX := Lib.hid hX
    have HXS := Lib.hid hxs
    have HU := Lib.hid hu
    have hlt := HO.out.lt
    have HLT := Lib.hid hlt
    have HIN := Lib.hid hin
    obtain ⟨y, hy⟩ : ∃ y : Int, y = byte s 0 := ⟨_, rfl⟩
    have HY : Hid ((s[0].toNat : Int) = y) := by show _ = _; rw [hy]; exact HB0.out
    rw [HY.out] at HG
    have hyb : 0 ≤ y ∧ y < 256 := by rw [hy]; exact byte_bd s 0
    clear hX hxs hu hlt hin hy hy0 q2 t3
    refine wp_region_facts (.grow 10 11 131 2 wr.heap.size (.slice ao n cap) n (tgCells out) own (n + 1) (tgCells out ++ [.int .i64 y, .string X])) (HO.out) [.is (.slice ao n cap), .is (.string s), .is (.int .u8 y), .is (.int .i64 y), .is (.string s), .is (.int .i64 j), .is (.string X), .is (.string X), .is (.agg #[.int .i64 y, .string X]), .made (wr.heap.size) (by exact HLT.out) 1 131 #[.int .i64 y, .string X], .any, .any] (by kernel_rfl) (by kernel_rfl) (by kernel_rfl) (by kernel_rfl) ?_ ?_
    · refine Steps.cons ?_ (Steps.cons ?_ (Steps.cons ?_ (Steps.cons ?_ (Steps.cons ?_ (Steps.cons ?_ (Steps.cons ?_ (Steps.cons ?_ (Steps.cons ?_ (Steps.cons ?_ (Steps.cons ?_ (Steps.cons ?_ Steps.nil)))))))))))
      · refine step_is _ rfl ⟨_, rfl⟩ rfl (fun _ _ => trivial) ?_
        intro a W hi hF hD
        have hu := hi.upd
        have e4 : a.tmps[4]?.getD undef = _ := (ev a 4).symm.trans (hF 4 (by kernel_rfl))
        clear hF hD
        go_simp
      · refine step_is _ rfl ⟨_, rfl⟩ rfl (fun _ _ => trivial) ?_
        intro a W hi hF hD
        have hu := hi.upd
        have e0 : a.tmps[0]?.getD undef = _ := (ev a 0).symm.trans (hF 0 (by kernel_rfl))
        clear hF hD
        go_simp
      · refine step_is _ rfl ⟨_, rfl⟩ rfl (fun _ _ => trivial) ?_
        intro a W hi hF hD
        have hu := hi.upd
        have e36 : a.tmps[36]?.getD undef = .string s := (ev a 36).symm.trans (hD _ (Array.mem_of_getElem? (i := 0) rfl) rfl).1
        clear hF hD
        have := HY.out
        go_simp
      · refine step_is _ rfl ⟨_, rfl⟩ rfl (fun _ _ => trivial) ?_
        intro a W hi hF hD
        have hu := hi.upd
        have e37 : a.tmps[37]?.getD undef = .int .u8 y := (ev a 37).symm.trans (hD _ (Array.mem_of_getElem? (i := 0) rfl) rfl).1
        clear hF hD
        go_simp
        exact IntWalk.i64_in _ (by omega)
      · refine step_is _ rfl ⟨_, rfl⟩ rfl (fun _ _ => trivial) ?_
        intro a W hi hF hD
        have hu := hi.upd
        have e0 : a.tmps[0]?.getD undef = _ := (ev a 0).symm.trans (hF 0 (by kernel_rfl))
        clear hF hD
        go_simp
      · refine step_is _ rfl ⟨_, rfl⟩ rfl (fun _ _ => trivial) ?_
        intro a W hi hF hD
        have hu := hi.upd
        have e5 : a.tmps[5]?.getD undef = _ := (ev a 5).symm.trans (hF 5 (by kernel_rfl))
        clear hF hD
        have hwr : True → wrap64 (s[1].toNat : Int) = (j : Int) := fun _ => by rw [HJ.out]; exact IntWalk.wrap64_in _ (by omega)
        go_simp
      · refine step_is _ rfl ⟨_, rfl⟩ rfl (fun _ _ => trivial) ?_
        intro a W hi hF hD
        have hu := hi.upd
        have e39 : a.tmps[39]?.getD undef = .string s := (ev a 39).symm.trans (hD _ (Array.mem_of_getElem? (i := 0) rfl) rfl).1
        have e40 : a.tmps[40]?.getD undef = .int .i64 j := (ev a 40).symm.trans (hD _ (Array.mem_of_getElem? (i := 1) rfl) rfl).1
        clear hF hD
        have := HX.out
        go_simp
      · refine step_call rfl (fun _ _ => trivial) ?_
        intro a W hi hF hD
        have hu := hi.upd
        have e41 : a.tmps[41]?.getD undef = .string X := (ev a 41).symm.trans (hD _ (Array.mem_of_getElem? (i := 0) rfl) rfl).1
        clear hF hD
        refine ⟨_, _, by (go_simp; first | done | rfl | exact ⟨rfl, rfl⟩), ?_⟩
        refine (clone_any X _ HXS.out).mono ?_
        rintro e w2 ⟨rfl, hu2⟩
        first | exact ⟨_, rfl, hu2, rfl⟩ | (cases hu2; exact ⟨_, rfl, Upd.refl _ _, rfl⟩)
      · refine step_is _ rfl ⟨_, rfl⟩ rfl (fun _ _ => trivial) ?_
        intro a W hi hF hD
        have hu := hi.upd
        have e38 : a.tmps[38]?.getD undef = .int .i64 y := (ev a 38).symm.trans (hD _ (Array.mem_of_getElem? (i := 0) rfl) rfl).1
        have e42 : a.tmps[42]?.getD undef = .string X := (ev a 42).symm.trans (hD _ (Array.mem_of_getElem? (i := 1) rfl) rfl).1
        clear hF hD
        go_simp
      · refine step_run rfl (fun _ _ => trivial) ?_
        intro a W hi hF hD
        have hu := hi.upd
        have e43 : a.tmps[43]?.getD undef = .agg #[.int .i64 y, .string X] := (ev a 43).symm.trans (hD _ (Array.mem_of_getElem? (i := 0) rfl) rfl).1
        clear hF hD
        exact ⟨_, _, by (go_simp; first | done | rfl | exact ⟨rfl, rfl⟩), (Upd.refl _ _).alloc _, _, hu.size, rfl, Blk.new _ _ _⟩
      · refine step_gen rfl ⟨_, rfl⟩ ?_
        intro a W hi hF hD
        have hu := hi.upd
        have e35 : a.tmps[35]?.getD undef = .slice ao n cap := (ev a 35).symm.trans (hD _ (Array.mem_of_getElem? (i := 0) rfl) rfl).1
        obtain ⟨g44, _, e44, b44⟩ : ∃ g, wr.heap.size ≤ g ∧ a.eval (.tmp 44) = .slice (some ⟨g, 0, none⟩) 1 1 ∧ Blk W g 131 #[.int .i64 y, .string X] := (hD _ (Array.mem_of_getElem? (i := 1) rfl) rfl).1
        rw [ev] at e44
        clear hF hD
        obtain ⟨g, off, cap2, w2, own2, r1, r2, r3, r4, r5⟩ := run_append_keep (P := Tryz.prog) W 22 22 131 i0 _ 2 24 Tryz.underlying22 hi0 hz0 hz1 hz2 rfl (by decide) (.slice ao n cap) n (tgCells out) own hi.hold ⟨g44, 0, none⟩ 1 1 [.int .i64 y, .string X] rfl (World.news_of_block b44) (by simp [Value.oneCell']) (by decide) (by simp only [maxLen]; omega) (by omega)
        exact ⟨_, w2, exec_append rfl (by rw [ev]; exact e35) (by rw [ev]; exact e44) r1, Env.grow_set hu r4 r5 ⟨g, off, cap2, own2, rfl, r2, fun k hk => (r3 k hk).imp id (Nat.le_trans hu.size)⟩⟩
      · refine step_gen rfl ⟨_, rfl⟩ ?_
        intro a W hi hF hD
        have hu := hi.upd
        have d45 := (hD _ (Array.mem_of_getElem? (i := 0) rfl) rfl).2
        clear hF hD
        exact ⟨_, W, by (go_simp; first | done | rfl | exact ⟨rfl, rfl⟩), Env.grow_on hi (by rw [← ev]; exact d45)⟩
    intro vals W hu hv
    have v0 : vals 0 = .slice ao n cap := (hv 0 (by decide)).1
    have v1 : vals 1 = .string s := (hv 1 (by decide)).1
    have v2 : vals 2 = .int .u8 y := (hv 2 (by decide)).1
    have v3 : vals 3 = .int .i64 y := (hv 3 (by decide)).1
    have v4 : vals 4 = .string s := (hv 4 (by decide)).1
    have v5 : vals 5 = .int .i64 j := (hv 5 (by decide)).1
    have v6 : vals 6 = .string X := (hv 6 (by decide)).1
    have v7 : vals 7 = .string X := (hv 7 (by decide)).1
    have v8 : vals 8 = .agg #[.int .i64 y, .string X] := (hv 8 (by decide)).1
    obtain ⟨g9, _, v9, b9⟩ : ∃ g, wr.heap.size ≤ g ∧ vals 9 = .slice (some ⟨g, 0, none⟩) 1 1 ∧ Blk W g 131 #[.int .i64 y, .string X] := (hv 9 (by decide)).1
    have v10 := (hv 10 (by decide)).2
    have v11 := (hv 11 (by decide)).2
    clear hv
    obtain ⟨g, off, cap2, own2, q11, ho2, hin2⟩ := Env.grow_get 11 rfl v11
    simp only [putAll, Act.put, Nat.zero_add, Nat.reduceAdd, q11, v0, v1, v2, v3, v4, v5, v6, v7, v8, v9, List.setIfInBounds_toArray, List.set_cons_zero, List.set_cons_succ]
    clear v0 v1 v2 v3 v4 v5 v6 v7 v8 v9
    rw [q11] at ho2
    have HO2 := Lib.hid ho2
    have HIN2 := Lib.hid hin2
    have HU2 := Lib.hid (show Upd own wr W from hu)
    have hwz : w.heap.size ≤ wr.heap.size := HU.out.size
    have hwr : True → wrap64 (s[1].toNat : Int) = (j : Int) := fun _ => by rw [HJ.out]; exact IntWalk.wrap64_in _ (by omega)
    clear ho2 hin2 hu v10 v11 q11
    go_wp2
    go_roundg (M - 1)
    case rel =>
      have hin3 : ∀ k, k ∈ own2 → w.heap.size ≤ k := fun k hk => by
        rcases HIN2.out k hk with h | h
        · exact HIN.out k h
        · omega
      refine ⟨M - 1, s.extract j s.size, out ++ [⟨y, X⟩], some ⟨g, off, none⟩, cap2, own2, rfl, rfl, by rw [List.length_append, List.length_singleton, ← HN.out], by rw [ByteArray.size_extract]; omega, by rw [ByteArray.size_extract]; omega, by rw [List.length_append, List.length_singleton, ← HN.out]; omega, ?_, hin3, HG.out, ?_⟩
      · rw [List.length_append, List.length_singleton, ← HN.out, tgCells_snoc]; exact HO2.out
      · exact HU.out.trans' HU2.out (fun x hx => .inr (HIN.out x hx))
    case measure => have := HMM.out; omega
end Go.Proofs.YtljiichcmljbgaaGreat
namespace Go.Proofs.YtljiichcmljbgaaGreat
open Go.RowKit
set_option linter.unusedSimpArgs false
set_option linter.unusedVariables false

theorem encOpts_size (l : List Tg) (h : ∀ t ∈ l, t.s.size ≤ 253) : (encOpts l).size ≤ l.length * 255 := by
  induction l with
  | nil => exact Nat.le_refl _
  | cons t l ih =>
    have h1 := ih (fun x hx => h x (by simp [hx]))
    have h2 := h t (by simp)
    rw [encOpts, ByteArray.size_append, obytes_size, List.length_cons, Nat.add_mul]
    omega
theorem putOpts_ok {l : List Tg} {b : ByteArray} (h : putOpts l = (b, 0)) : b = encOpts l ∧ l.length ≤ 30 ∧ ∀ t ∈ l, 1 ≤ t.k ∧ t.k ≤ 255 ∧ t.s.size ≤ 253 := by
  unfold putOpts at h
  split at h
  · simp at h
  · split at h
    · simp at h
    · rename_i h1 h2
      refine ⟨(Prod.ext_iff.1 h).1.symm, by omega, fun t ht => ?_⟩
      have : ¬ optWrong t = true := fun h => h2 (List.any_eq_true.2 ⟨t, ht, h⟩)
      simp [optWrong] at this
      exact ⟨this.1.1, this.1.2, this.2⟩
theorem putOpts_size (l : List Tg) : (putOpts l).1.size ≤ 7650 := by
  obtain ⟨b, e, h⟩ : ∃ b e, putOpts l = (b, e) := ⟨_, _, rfl⟩
  rw [h]
  by_cases he : e = 0
  · subst he
    obtain ⟨rfl, h1, h2⟩ := putOpts_ok h
    have := encOpts_size l (fun t ht => (h2 t ht).2.2)
    have h3 : l.length * 255 ≤ 30 * 255 := Nat.mul_le_mul_right _ h1
    simp only
    omega
  · unfold putOpts at h
    split at h
    · rw [← (Prod.ext_iff.1 h).1]; decide
    · split at h
      · rw [← (Prod.ext_iff.1 h).1]; decide
      · exact absurd (Prod.ext_iff.1 h).2.symm he
theorem mid_eq (a s r : ByteArray) {i j : Nat} (hi : i = a.size) (hj : j = a.size + s.size) : (a ++ (s ++ r)).extract i j = s := by
  subst hi hj
  have h := @ByteArray.extract_append_size_add a (s ++ r) 0 s.size
  simp only [Nat.add_zero] at h
  rw [h]
  exact ByteArray.extract_append_eq_left rfl
def optOk (t : Tg) : Prop := 1 ≤ t.k ∧ t.k ≤ 255 ∧ t.s.size ≤ 253
theorem nums_byte (l : List Int) (r : ByteArray) (i : Nat) (x : Int) (h : l[i]? = some x) (hx : 0 ≤ x ∧ x ≤ 255) : byte (strOfNums l ++ r) i = x := by
  have hi : i < l.length := (List.getElem?_eq_some_iff.1 h).1
  rw [append_byte_l _ _ _ (by rw [strOfNums_size]; exact hi)]
  simp only [byte, strOfNums]
  simp [h]
  omega
theorem opt_0 {t : Tg} (h : optOk t) (r : ByteArray) : byte (t.obytes ++ r) 0 = t.k := by
  rw [Tg.obytes, ByteArray.append_assoc]
  exact nums_byte _ _ 0 _ rfl ⟨by have := h.1; omega, h.2.1⟩
theorem opt_1 {t : Tg} (h : optOk t) (r : ByteArray) : byte (t.obytes ++ r) 1 = t.s.size + 2 := by
  rw [Tg.obytes, ByteArray.append_assoc]
  exact nums_byte _ _ 1 _ rfl ⟨by omega, by have := h.2.2; omega⟩
theorem getOptFrom_opt {m : Nat} {t : Tg} {r : ByteArray} {out : List Tg} (h : optOk t) (hm : (t.obytes ++ r).size ≤ m) :
    getOptFrom m (t.obytes ++ r) out = if 30 ≤ out.length then ([], 2) else getOptFrom (m - 1) r (out ++ [t]) := by
  have hsz : (t.obytes ++ r).size = 2 + t.s.size + r.size := by rw [ByteArray.size_append, obytes_size]
  have h1 := h.1
  rw [getOptFrom_step _ _ _ hm (by omega), if_neg (by omega), opt_0 h, opt_1 h, if_neg (by omega), if_neg (by omega)]
  have e1 : ((t.s.size : Int) + 2).toNat = t.s.size + 2 := by omega
  rw [e1]
  have e2 : (t.obytes ++ r).extract 2 (t.s.size + 2) = t.s := by
    rw [Tg.obytes, ByteArray.append_assoc]
    exact mid_eq _ _ _ (by simp [strOfNums_size]) (by simp [strOfNums_size]; omega)
  have e3 : (t.obytes ++ r).extract (t.s.size + 2) (t.obytes ++ r).size = r :=
    ByteArray.extract_append_eq_right (by rw [obytes_size]; omega) (by rw [ByteArray.size_append])
  rw [e2, e3]
theorem encOpts_append (l m : List Tg) : encOpts (l ++ m) = encOpts l ++ encOpts m := by
  induction l with
  | nil => exact (ByteArray.empty_append).symm
  | cons t l ih => rw [List.cons_append, encOpts, encOpts, ih, ByteArray.append_assoc]
theorem getOptFrom_all (l : List Tg) (hl : ∀ t ∈ l, optOk t) : ∀ (m : Nat) (out : List Tg), (encOpts l).size ≤ m → out.length ≤ 30 →
    getOptFrom m (encOpts l) out = if 30 < out.length + l.length then ([], 2) else (out ++ l, 0) := by
  induction l with
  | nil =>
    intro m out hm h30
    rw [getOptFrom_zero _ _ _ (by rfl), if_neg (by simp; omega)]
    simp
  | cons t l ih =>
    intro m out hm h30
    have ht := hl t (by simp)
    rw [encOpts] at hm ⊢
    rw [getOptFrom_opt ht hm, List.length_cons]
    have hsz : (t.obytes ++ encOpts l).size = 2 + t.s.size + (encOpts l).size := by rw [ByteArray.size_append, obytes_size]
    by_cases h : 30 ≤ out.length
    · rw [if_pos h, if_pos (by omega)]
    · rw [if_neg h, ih (fun x hx => hl x (by simp [hx])) (m - 1) (out ++ [t]) (by omega) (by simp; omega)]
      simp only [List.length_append, List.length_singleton, List.append_assoc, List.singleton_append]
      by_cases h2 : 30 < out.length + 1 + l.length
      · rw [if_pos h2, if_pos (by omega)]
      · rw [if_neg h2, if_neg (by omega)]
theorem getOpts_all (l : List Tg) (hl : ∀ t ∈ l, optOk t) : getOpts (encOpts l) = if 30 < l.length then ([], 2) else (l, 0) := by
  rw [getOpts, getOptFrom_all l hl _ _ (Nat.le_refl _) (by simp)]
  simp
theorem putOpts_bad {l : List Tg} {b : ByteArray} {e : Int} (h : putOpts l = (b, e)) (he : e ≠ 0) : b = ⟨#[]⟩ := by
  unfold putOpts at h
  split at h
  · exact (Prod.ext_iff.1 h).1.symm
  · split at h
    · exact (Prod.ext_iff.1 h).1.symm
    · exact absurd (Prod.ext_iff.1 h).2.symm he

/-! ### packets -/
end Go.Proofs.YtljiichcmljbgaaGreat
