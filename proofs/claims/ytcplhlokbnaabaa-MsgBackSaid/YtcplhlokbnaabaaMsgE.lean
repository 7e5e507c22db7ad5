/- The walks of slices.IndexFunc, ContainsFunc at ints, of msg.words, msg.put, msg.IsCtl at a known first byte. -/
import Derived.Test.YtcplhlokbnaabaaMsgB
namespace Go.Proofs.Ytcplhlokbnaabaa
open Go.RowKit
set_option maxRecDepth 20000
set_option linter.unusedSimpArgs false
set_option linter.unusedVariables false

/-- The place of the first one that is so, or -1. -/
def ixf (p : Int → Bool) : List Int → Nat → Int
  | [], _ => -1
  | t :: l, k => if p t = true then k else ixf p l (k + 1)
theorem ixf_any (p : Int → Bool) (l : List Int) (k : Nat) : decide (0 ≤ ixf p l k) = l.any p := by
  induction l generalizing k with
  | nil => simp [ixf]
  | cons t l ih =>
    rw [ixf, List.any_cons]
    cases h : p t with
    | true => simp
    | false => simp [ih]

set_option maxHeartbeats 1000000 in
theorem indexInts_any (f : Nat) (p : Int → Bool) (l : List Int) (v : Value) (w : World) (hl : IntsAt w v l)
    (hcf : ∀ x W, (callFunc f #[x]).run Try.prog W = .ok (.enter f #[x]) W)
    (hf : ∀ t ∈ l, ∀ W : World, Calls Try.prog f #[.int .i64 t] W fun e w' => e = .returned (.bool (p t)) ∧ Upd [] W w') :
    Calls Try.prog 52 #[v, .func (.func f) #[] #[]] w fun e w' => e = .returned (.int .i64 (ixf p l 0)) ∧ Upd [] w w' := by
  obtain ⟨ao, cap, rfl, h1, h2, h3⟩ := id hl
  obtain ⟨n, hn⟩ : ∃ n, n = l.length := ⟨_, rfl⟩
  rw [← hn] at h1
  rw [← hn]
  have HL := Lib.hid hl
  have HN := Lib.hid hn
  have HF := Lib.hid hf
  simp only [maxLen] at h2
  clear h3 hl hn hf
  go_enter Try.func52, Try.ntmps52
  go_wp2
  go_loopg [8] n (fun m s8 wr => ∃ k : Nat, k + m = n ∧ s8 = .int .i64 k ∧ ixf p (l.drop k) k = ixf p l 0 ∧ Upd [] w wr)
  case atStart => exact ⟨0, by omega, rfl, rfl, Upd.refl _ _⟩
  case round =>
    obtain ⟨k, hk, rfl, hi, hu⟩ := hrel
    by_cases t : k < n
    · obtain ⟨x, hx⟩ : ∃ x, l[k]? = some x := by
        have := HN.out
        exact ⟨_, List.getElem?_eq_getElem (by omega)⟩
      have HC := Lib.hid (HF.out x (List.mem_of_getElem? hx))
      obtain ⟨ao', cap', e0, -, -, h3⟩ := HL.out.upd hu
      injection e0 with e0 e1 e2
      clear e1
      subst e0 e2
      obtain ⟨q, rfl, c0⟩ := h3 k x hx
      clear h3
      have hd : l.drop k = x :: l.drop (k + 1) := by
        obtain ⟨h5, h6⟩ := List.getElem?_eq_some_iff.1 hx
        rw [List.drop_eq_getElem_cons h5, h6]
      rw [hd, ixf] at hi
      have HI := Lib.hid hi
      have HU := Lib.hid hu
      clear hi hd hu hx
      by_cases t1 : p x = true
      · go_wp2_with fail
        refine (HC.out _).mono ?_
        rintro e w' ⟨rfl, hu2⟩
        rw [t1]
        have HU2 := Lib.hid (HU.out.trans hu2)
        clear hu2
        go_wp2
        go_ret
        exact ⟨by rw [← HI.out, if_pos t1]; rfl, HU2.out⟩
      · have t1 : p x = false := by simpa using t1
        go_wp2_with fail
        refine (HC.out _).mono ?_
        rintro e w' ⟨rfl, hu2⟩
        rw [t1]
        have HU2 := Lib.hid (HU.out.trans hu2)
        clear hu2
        go_wp2
        go_roundg (n - (k + 1))
        case rel => exact ⟨k + 1, by omega, by go_num, by rw [← HI.out, if_neg (by simp [t1])], HU2.out⟩
        case measure => omega
    · obtain rfl : k = n := by omega
      have hd : l.drop k = [] := by rw [HN.out]; simp
      rw [hd] at hi
      have HI := Lib.hid hi
      clear hi hd
      go_wp2
      go_ret
      exact ⟨by rw [← HI.out]; rfl, hu⟩

set_option maxHeartbeats 1000000 in
theorem containsInts_any (f : Nat) (p : Int → Bool) (l : List Int) (v : Value) (w : World) (hl : IntsAt w v l)
    (hcf : ∀ x W, (callFunc f #[x]).run Try.prog W = .ok (.enter f #[x]) W)
    (hf : ∀ t ∈ l, ∀ W : World, Calls Try.prog f #[.int .i64 t] W fun e w' => e = .returned (.bool (p t)) ∧ Upd [] W w') :
    Calls Try.prog 40 #[v, .func (.func f) #[] #[]] w fun e w' => e = .returned (.bool (l.any p)) ∧ Upd [] w w' := by
  have HL := Lib.hid hl
  have HF := Lib.hid hf
  have HCF := Lib.hid hcf
  have H1 := Lib.hid (ixf_any p l 0)
  clear hf hl hcf
  go_enter Try.func40, Try.ntmps40
  go_wp2_with fail
  refine (indexInts_any f p l v _ HL.out HCF.out HF.out).mono ?_
  rintro e w' ⟨rfl, hu⟩
  go_wp2
  go_ret
  exact ⟨by rw [← H1.out]; rfl, hu⟩


def overWord (n : Int) : Bool := decide (n < 0) || decide (65535 < n)
set_option maxHeartbeats 400000 in
theorem words1_any (n : Int) (w : World) :
    Calls Try.prog 41 #[.int .i64 n] w fun e w' => e = .returned (.bool (overWord n)) ∧ Upd [] w w' := by
  unfold overWord
  by_cases t1 : n < 0
  · go_enter Try.func41, Try.ntmps41
    go_wp2
    go_ret
    exact ⟨by simp [t1], Upd.refl _ _⟩
  · go_enter Try.func41, Try.ntmps41
    go_wp2
    go_ret
    exact ⟨by simp; omega, Upd.refl _ _⟩
set_option maxHeartbeats 400000 in
theorem words_any (l : List Int) (v : Value) (w : World) (hl : IntsAt w v l) :
    Calls Try.prog 29 #[v] w fun e w' => e = .returned (.bool (!l.any overWord)) ∧ Upd [] w w' := by
  have HL := Lib.hid hl
  clear hl
  go_enter Try.func29, Try.ntmps29
  go_wp2_with fail
  refine (containsInts_any 41 overWord l _ _ HL.out (fun _ _ => by kernel_rfl) (fun t _ W => words1_any t W)).mono ?_
  rintro e w' ⟨rfl, hu⟩
  go_wp2_with fail
  go_ret
  exact ⟨rfl, hu⟩

/-- Numbers of two bytes, one behind the other. -/
def wordsOf : List Int → ByteArray → ByteArray
  | [], s => s
  | n :: l, s => wordsOf l (s ++ be 2 n)
set_option maxHeartbeats 1000000 in
theorem msgPut_any (l : List Int) (v : Value) (w : World) (hl : IntsAt w v l) (hs : ∀ n ∈ l, 0 ≤ n ∧ n < 65536) (hlen : l.length ≤ 1000000) :
    Calls Try.prog 33 #[v] w fun e w' => e = .returned (.string (wordsOf l ⟨#[]⟩)) ∧ Upd [] w w' := by
  obtain ⟨ao, cap, rfl, h1, h2, h3⟩ := id hl
  obtain ⟨n, hn⟩ : ∃ n, n = l.length := ⟨_, rfl⟩
  rw [← hn] at h1
  rw [← hn]
  have HL := Lib.hid hl
  have HN := Lib.hid hn
  have HS := Lib.hid hs
  rw [← hn] at hlen
  simp only [maxLen] at h2
  clear h3 hl hn hs
  go_enter Try.func33, Try.ntmps33
  go_wp2
  go_loopg [3, 10] n (fun m s3 s10 wr => ∃ (k : Nat) (s : ByteArray), k + m = n ∧ s3 = .string s ∧ s10 = .int .i64 k ∧ s.size = 2 * k ∧ wordsOf (l.drop k) s = wordsOf l ⟨#[]⟩ ∧ Upd [] w wr)
  case atStart => exact ⟨0, ⟨#[]⟩, by omega, rfl, rfl, rfl, rfl, Upd.refl _ _⟩
  case round =>
    obtain ⟨k, s, hk, rfl, rfl, hz, hi, hu⟩ := hrel
    by_cases t : k < n
    · obtain ⟨x, hx⟩ : ∃ x, l[k]? = some x := by
        have := HN.out
        exact ⟨_, List.getElem?_eq_getElem (by omega)⟩
      have HC := Lib.hid (HS.out x (List.mem_of_getElem? hx))
      obtain ⟨ao', cap', e0, -, -, h3⟩ := HL.out.upd hu
      injection e0 with e0 e1 e2
      clear e1
      subst e0 e2
      obtain ⟨q, rfl, c0⟩ := h3 k x hx
      clear h3
      have hd : l.drop k = x :: l.drop (k + 1) := by
        obtain ⟨h5, h6⟩ := List.getElem?_eq_some_iff.1 hx
        rw [List.drop_eq_getElem_cons h5, h6]
      rw [hd, wordsOf] at hi
      have hp := fun W => wirePut_ok x 2 (by omega) (by have := HC.out; omega) W
      obtain ⟨b, hb⟩ : ∃ b, be 2 x = b := ⟨_, rfl⟩
      have hbz : b.size = 2 := by rw [← hb]; exact be_size 2 x
      rw [hb] at hp hi
      have HP := Lib.hid hp
      have HI := Lib.hid hi
      have HU := Lib.hid hu
      clear hi hd hu hx hp hb
      go_wp2_with fail
      refine (HP.out _).mono ?_
      rintro e w' ⟨rfl, hu2⟩
      have HU2 := Lib.hid (HU.out.trans hu2)
      clear hu2
      go_wp2
      go_roundg (n - (k + 1))
      case rel => exact ⟨k + 1, _, by omega, rfl, by go_num, by rw [ByteArray.size_append]; omega, HI.out, HU2.out⟩
      case measure => omega
    · obtain rfl : k = n := by omega
      have hd : l.drop k = [] := by rw [HN.out]; simp
      rw [hd] at hi
      have HI := Lib.hid hi
      clear hi hd
      go_wp2
      go_ret
      exact ⟨by rw [← HI.out]; rfl, hu⟩

/-- The head of a message without numbers. -/
def head0 : ByteArray := ⟨#[200, 2, 0, 12, 0, 0, 0, 0, 0, 0, 0, 0]⟩
theorem isCtl_head0 (w : World) :
    Calls Try.prog 17 #[.string head0] w fun e w' => e = .returned (.bool true) ∧ w = w' := by
  unfold head0
  go_enter Try.func17, Try.ntmps17
  go_wp2_with fail
  go_ret
  exact ⟨rfl, rfl⟩
end Go.Proofs.Ytcplhlokbnaabaa
