/- The walks of opts.PutOptions, its test, opts.Value, opts.hasOptions. -/
import Derived.Test.YthkfgjmifoeljaaGreatOptA
import Derived.Test.YthkfgjmifoeljaaGreatOptV
import Derived.Test.YthkfgjmifoeljaaGreatStrs
import Derived.Test.YthkfgjmifoeljaaGreatFacts
namespace Go.Proofs.YthkfgjmifoeljaaGreat
open Go.RowKit
set_option linter.unusedSimpArgs false
set_option linter.unusedVariables false

def optWrong (t : Tg) : Bool := !(decide (1 ≤ t.k) && decide (t.k ≤ 255)) || decide (253 < t.s.size)
set_option maxHeartbeats 400000 in
theorem putOptions1_any (t : Tg) (ht : t.s.size ≤ maxLen) (w : World) :
    Calls Tryz.prog 36 #[t.val] w fun e w' => e = .returned (.bool (optWrong t)) ∧ Upd [] w w' := by
  obtain ⟨k, s⟩ := t
  simp only [Tg.val, optWrong]
  simp only [maxLen] at ht
  by_cases t1 : 1 ≤ k ∧ k ≤ 255
  · have h1 : (decide (1 ≤ k) && decide (k ≤ 255)) = true := by simpa using t1
    go_enter Tryz.func36, Tryz.ntmps36
    go_wp2_with (go_at_call 37; refine (optsIn_any _ _ _ _).mono ?_; rintro e w' ⟨rfl, rfl⟩)
    go_ret
    exact ⟨by simp [h1]; omega, (Upd.refl _ _).alloc _⟩
  · have h1 : (decide (1 ≤ k) && decide (k ≤ 255)) = false := by simpa using fun h => by omega
    go_enter Tryz.func36, Tryz.ntmps36
    go_wp2_with (go_at_call 37; refine (optsIn_any _ _ _ _).mono ?_; rintro e w' ⟨rfl, rfl⟩)
    go_ret
    exact ⟨by simp [h1], (Upd.refl _ _).alloc _⟩

def hasOpts (c : Int) : Bool := decide (1 ≤ c) && decide (c ≤ 4)
set_option maxHeartbeats 400000 in
theorem hasOptions_any (c : Int) (w : World) :
    Calls Tryz.prog 31 #[.int .i64 c] w fun e w' => e = .returned (.bool (hasOpts c)) ∧ w = w' := by
  go_enter Tryz.func31, Tryz.ntmps31
  go_wp2_with (go_at_call 37; refine (optsIn_any _ _ _ _).mono ?_; rintro e w' ⟨rfl, rfl⟩)
  go_ret
  exact ⟨rfl, rfl⟩
def Tg.obytes (t : Tg) : ByteArray := strOfNums [t.k, (t.s.size : Int) + 2] ++ t.s
theorem obytes_size (t : Tg) : t.obytes.size = 2 + t.s.size := by simp [Tg.obytes, ByteArray.size_append, strOfNums_size]
def encOpts : List Tg → ByteArray
  | [] => ⟨#[]⟩
  | t :: l => t.obytes ++ encOpts l
def putOpts (l : List Tg) : ByteArray × Int :=
  if 30 < l.length then (⟨#[]⟩, 2) else if l.any optWrong = true then (⟨#[]⟩, 1) else (encOpts l, 0)

set_option maxHeartbeats 2000000 in
theorem putOptions_any (l : List Tg) (v : Value) (w : World) (hl : TgsAt w v l) (hs : ∀ t ∈ l, t.s.size ≤ 140737488355328) :
    Calls Tryz.prog 9 #[v] w fun e w' => e = .returned (.tuple #[.string (putOpts l).1, .int .i64 (putOpts l).2]) ∧ Upd [] w w' := by
  obtain ⟨ao, cap, rfl, h1, h2, h3⟩ := id hl
  obtain ⟨n, hn⟩ : ∃ n, n = l.length := ⟨_, rfl⟩
  have HQ : Hid (putOpts l = (if 30 < n then (⟨#[]⟩, 2) else if l.any optWrong = true then (⟨#[]⟩, 1) else (encOpts l, 0))) := by show _ = _; rw [hn]; rfl
  rw [HQ.out]
  rw [← hn] at h1
  rw [← hn]
  have HL := Lib.hid hl
  have HN := Lib.hid hn
  have HS := Lib.hid hs
  have HSM : Hid (∀ t ∈ l, t.s.size ≤ maxLen) := fun t ht => by have := hs t ht; simp only [maxLen]; omega
  simp only [maxLen] at h2
  clear h3 hl hn hs HQ
  by_cases t1 : 30 < n
  · rw [if_pos t1]
    go_enter Tryz.func9, Tryz.ntmps9
    go_wp2_with fail
    go_ret2
    exact ⟨rfl, Upd.refl _ _⟩
  rw [if_neg t1]
  have t1' : ¬ (30 : Int) < n := by omega
  by_cases t2 : l.any optWrong = true
  · rw [if_pos t2]
    have T2 := Lib.hid t2
    clear t2
    go_enter Tryz.func9, Tryz.ntmps9
    go_wp2_with fail
    refine (containsFunc_any 36 optWrong l _ _ (by rw [HN.out]; exact HL.out) (fun _ _ => by kernel_rfl) (fun t ht W => putOptions1_any t (HSM.out t ht) W)).mono ?_
    rintro e w' ⟨rfl, hu⟩
    rw [T2.out]
    go_wp2
    go_ret2
    exact ⟨rfl, hu⟩
  rw [if_neg t2]
  have HW : Hid (∀ t ∈ l, 1 ≤ t.k ∧ t.k ≤ 255 ∧ t.s.size ≤ 253) := by
    show ∀ t ∈ l, 1 ≤ t.k ∧ t.k ≤ 255 ∧ t.s.size ≤ 253
    intro t ht
    have : ¬ optWrong t = true := fun h => t2 (List.any_eq_true.2 ⟨t, ht, h⟩)
    simp [optWrong] at this
    exact ⟨this.1.1, this.1.2, this.2⟩
  have t2' : l.any optWrong = false := by simpa using t2
  have T2 := Lib.hid t2'
  clear t2 t2'
  go_enter Tryz.func9, Tryz.ntmps9
  go_wp2_with fail
  refine (containsFunc_any 36 optWrong l _ _ (by rw [HN.out]; exact HL.out) (fun _ _ => by kernel_rfl) (fun t ht W => putOptions1_any t (HSM.out t ht) W)).mono ?_
  rintro e w1 ⟨rfl, hu⟩
  rw [T2.out]
  go_wp2
  go_loopg [4, 16] n (fun m s4 s16 wr => ∃ k : Nat, k + m = n ∧ s16 = .int .i64 k ∧ ∃ o : ByteArray, s4 = .string o ∧ o.size ≤ k * 255 ∧ o ++ encOpts (l.drop k) = encOpts l ∧ Upd [] w wr)
  case atStart => exact ⟨0, by omega, rfl, ⟨#[]⟩, rfl, by decide, ByteArray.empty_append, hu⟩
  case round =>
    obtain ⟨k, hk, rfl, o, rfl, ho, hp, hu⟩ := hrel
    by_cases t : k < n
    · obtain ⟨x, hx⟩ : ∃ x, l[k]? = some x := by
        have := HN.out
        exact ⟨_, List.getElem?_eq_getElem (by omega)⟩
      have hw := HW.out x (List.mem_of_getElem? hx)
      obtain ⟨ao', cap', e0, _, _, h3⟩ := HL.out.upd hu
      injection e0 with e0 _ e2
      subst e0 e2
      obtain ⟨q, rfl, c0, c1⟩ := h3 k x hx
      clear h3
      have hd : l.drop k = x :: l.drop (k + 1) := by
        obtain ⟨h5, h6⟩ := List.getElem?_eq_some_iff.1 hx
        rw [List.drop_eq_getElem_cons h5, h6]
      rw [hd, encOpts, ← ByteArray.append_assoc] at hp
      have HU := Lib.hid hu
      have HP := Lib.hid hp
      have hob : o.size ≤ 7650 := by have : k * 255 ≤ 30 * 255 := Nat.mul_le_mul_right _ (by omega); omega
      have hw1 := hw.1
      have hw2 := hw.2.1
      have hw3 := hw.2.2
      have HO := Lib.hid ho
      clear hd hu hx hp hw ho
      have hcv := str2 Tryz.underlying71 Tryz.underlying5 Tryz.underlying9 (Blk.new (wr.alloc (Obj.cells #[Value.int IntKind.i64 x.k, Value.string x.s] 67)) 5 #[.int .u8 x.k, .int .u8 ((x.s.size : Int) + 2)])
      have ha1 := run_string_add_sum (P := Tryz.prog) ((wr.alloc (Obj.cells #[Value.int IntKind.i64 x.k, Value.string x.s] 67)).alloc (.cells #[.int .u8 x.k, .int .u8 ((x.s.size : Int) + 2)] 5)) (strOfNums [x.k, (x.s.size : Int) + 2]) x.s (by rw [strOfNums_size]; simp; omega)
      have ha2 := run_string_add_sum (P := Tryz.prog) ((wr.alloc (Obj.cells #[Value.int IntKind.i64 x.k, Value.string x.s] 67)).alloc (.cells #[.int .u8 x.k, .int .u8 ((x.s.size : Int) + 2)] 5)) o (strOfNums [x.k, (x.s.size : Int) + 2] ++ x.s) (by rw [ByteArray.size_append, strOfNums_size]; simp; omega)
      have hz : (wr.alloc (Obj.cells #[Value.int IntKind.i64 x.k, Value.string x.s] 67)).heap.size = wr.heap.size + 1 := by simp
      rw [hz] at hcv
      clear hz
      go_wp2
      go_roundg (n - (k + 1))
      case rel => exact ⟨k + 1, by omega, by go_num, o ++ x.obytes, rfl, by rw [ByteArray.size_append, obytes_size]; have := HO.out; omega, HP.out, (HU.out.alloc _).alloc _⟩
      case measure => omega
    · obtain rfl : k = n := by omega
      have hd : l.drop k = [] := by rw [HN.out]; simp
      rw [hd] at hp
      have hp2 : o = encOpts l := by
        have : encOpts [] = ByteArray.empty := rfl
        rw [this, ByteArray.append_empty] at hp
        exact hp
      have HP := Lib.hid hp2
      clear hp hd hp2
      go_wp2
      go_ret2
      rw [← HP.out]
      exact ⟨rfl, hu⟩

end Go.Proofs.YthkfgjmifoeljaaGreat
