/- The walks of slices.Equal, slices.IndexFunc at values (Avp), of avp.Same, avp.Find. The walks of avp.in, avp.Num. The walks of msg.num, of slices.IndexFunc, ContainsFunc at ints, of msg.words, msg.put (for seats without msg's other functions). Plain: what a way and a proxy do. No program in sight. -/
import Derived.Test.YtljiichcmljbgaaGreatProg
import Derived.Test.YtljiichcmljbgaaGreatQLib
import Derived.Test.YtljiichcmljbgaaGreatQFacts
import Derived.Test.YtljiichcmljbgaaGreatQOptA
namespace Go.Proofs.YtljiichcmljbgaaGreat
open Go.RowKit
set_option linter.unusedSimpArgs false
set_option maxRecDepth 100000
set_option linter.unusedVariables false

theorem av_ite {α : Type} (x y : Av) (A B : α) :
    (if x.must = y.must then if x.hidden = y.hidden then if x.vendor = y.vendor then if x.kind = y.kind then if x.val.toList = y.val.toList then A else B else B else B else B else B) = if x = y then A else B := by
  obtain ⟨a, b, c, d, e⟩ := x
  obtain ⟨a', b', c', d', e'⟩ := y
  simp only [Av.mk.injEq, str_inj']
  by_cases h1 : a = a' <;> by_cases h2 : b = b' <;> by_cases h3 : c = c' <;> by_cases h4 : d = d' <;> by_cases h5 : e = e' <;> simp [h1, h2, h3, h4, h5]

/-- The place of the first one that is so, or -1. -/
def ixa (p : Av → Bool) : List Av → Nat → Int
  | [], _ => -1
  | t :: l, k => if p t = true then k else ixa p l (k + 1)
theorem ixa_any (p : Av → Bool) (l : List Av) (k : Nat) : decide (0 ≤ ixa p l k) = l.any p := by
  induction l generalizing k with
  | nil => simp [ixa]
  | cons t l ih =>
    rw [ixa, List.any_cons]
    cases h : p t with
    | true => simp
    | false => simp [ih]

set_option maxHeartbeats 1000000 in
theorem indexAv_any (f : Nat) (c : Value) (p : Av → Bool) (l : List Av) (v : Value) (w : World) (hl : AvsAt w v l)
    (hcf : ∀ x W, (callFunc f #[x, c]).run Tryz.prog W = .ok (.enter f #[x, c]) W)
    (hf : ∀ t ∈ l, ∀ W : World, Upd [] w W → Calls Tryz.prog f #[t.agg, c] W fun e w' => e = .returned (.bool (p t)) ∧ Upd [] W w') :
    Calls Tryz.prog 123 #[v, .func (.func f) #[] #[c]] w fun e w' => e = .returned (.int .i64 (ixa p l 0)) ∧ Upd [] w w' := by
  obtain ⟨ao, cap, rfl, h1, h2, h3⟩ := id hl
  obtain ⟨n, hn⟩ : ∃ n, n = l.length := ⟨_, rfl⟩
  rw [← hn] at h1
  rw [← hn]
  have HL := Lib.hid hl
  have HN := Lib.hid hn
  have HF := Lib.hid hf
  simp only [maxLen] at h2
  clear h3 hl hn hf
  go_enter Tryz.func123, Tryz.ntmps123
  go_wp2
  go_loopg [8] n (fun m s8 wr => ∃ k : Nat, k + m = n ∧ s8 = .int .i64 k ∧ ixa p (l.drop k) k = ixa p l 0 ∧ Upd [] w wr)
  case atStart => exact ⟨0, by omega, rfl, rfl, Upd.refl _ _⟩
  case round =>
    obtain ⟨k, hk, rfl, hi, hu⟩ := hrel
    by_cases t : k < n
    · obtain ⟨x, hx⟩ : ∃ x, l[k]? = some x := by
        have := HN.out
        exact ⟨_, List.getElem?_eq_getElem (by omega)⟩
      have HC := Lib.hid (HF.out x (List.mem_of_getElem? hx))
      obtain ⟨ao', cap', e0, _, _, h3⟩ := HL.out.upd hu
      injection e0 with e0 _ e2
      subst e0 e2
      obtain ⟨q, rfl, c0, c1, c2, c3, c4⟩ := h3 k x hx
      clear h3
      have hd : l.drop k = x :: l.drop (k + 1) := by
        obtain ⟨h5, h6⟩ := List.getElem?_eq_some_iff.1 hx
        rw [List.drop_eq_getElem_cons h5, h6]
      rw [hd, ixa] at hi
      have HI := Lib.hid hi
      have HU := Lib.hid hu
      clear hi hd hu hx
      by_cases t1 : p x = true
      · go_wp2_with fail
        refine (HC.out _ HU.out).mono ?_
        rintro e w' ⟨rfl, hu2⟩
        rw [t1]
        have HU2 := Lib.hid (HU.out.trans hu2)
        clear hu2
        go_wp2
        go_ret
        exact ⟨by rw [← HI.out, if_pos t1]; rfl, HU2.out⟩
      · have t1 : p x = false := by simpa using t1
        go_wp2_with fail
        refine (HC.out _ HU.out).mono ?_
        rintro e w' ⟨rfl, hu2⟩
        rw [t1]
        have HU2 := Lib.hid (HU.out.trans hu2)
        clear hu2
        go_wp2
        go_roundg (n - (k + 1))
        case rel => exact ⟨k + 1, by omega, by go_num, by rw [← HI.out, if_neg (by simp [t1])], HU2.out⟩
        case measure => omega
    · obtain rfl : k = n := by omega
      have hd : l.drop k = [] := by rw [HN.out]; simp
      rw [hd] at hi
      have HI := Lib.hid hi
      clear hi hd
      go_wp2
      go_ret
      exact ⟨by rw [← HI.out]; rfl, hu⟩

theorem ixa_spec (p : Av → Bool) (l : List Av) (k : Nat) : (ixa p l k = -1 ∧ l.find? p = none) ∨ ∃ (i : Nat) (t : Av), ixa p l k = ((k + i : Nat) : Int) ∧ l[i]? = some t ∧ l.find? p = some t := by
  induction l generalizing k with
  | nil => exact .inl ⟨rfl, rfl⟩
  | cons t l ih =>
    rw [ixa]
    by_cases h : p t = true
    · rw [if_pos h]
      exact .inr ⟨0, t, rfl, rfl, by simp [h]⟩
    · rw [if_neg h]
      have h' : p t = false := by simpa using h
      rcases ih (k + 1) with ⟨h1, h2⟩ | ⟨i, x, h1, h2, h3⟩
      · exact .inl ⟨h1, by simp [h', h2]⟩
      · exact .inr ⟨i + 1, x, by rw [h1]; congr 1; omega, by simpa using h2, by simp [h', h3]⟩
def avIs (kind : Int) (t : Av) : Bool := t.vendor == 0 && t.kind == kind
def findAv (kind : Int) (l : List Av) : ByteArray × Bool := match l.find? (avIs kind) with
  | some t => (t.val, true)
  | none => (⟨#[]⟩, false)

set_option maxHeartbeats 400000 in
theorem avFind1_any (kind : Int) (t : Av) (g : Nat) (w : World) (hg : w.cell? ⟨g, 0, none⟩ = some (.int .i64 kind)) :
    Calls Tryz.prog 173 #[t.agg, .pointer (some ⟨g, 0, none⟩)] w fun e w' => e = .returned (.bool (avIs kind t)) ∧ Upd [] w w' := by
  obtain ⟨mu, hi, ve, k, s⟩ := t
  simp only [Av.agg, avIs]
  have hc := ((Upd.refl [] w).alloc (Obj.cells #[Value.bool mu, Value.bool hi, Value.int IntKind.i64 ve, Value.int IntKind.i64 k, Value.string s] 67)).cell (p := ⟨g, 0, none⟩) (cell_lt' hg) (by simp)
  rw [hg] at hc
  have hlt := cell_lt' hg
  simp only at hlt
  cases hb : (ve == 0)
  all_goals
    simp only [Bool.true_and, Bool.false_and]
    go_enter Tryz.func173, Tryz.ntmps173
    go_wp2_with fail
    go_ret
    exact ⟨rfl, (Upd.refl _ _).alloc _⟩

set_option maxHeartbeats 1000000 in
theorem avFind_any (l : List Av) (v : Value) (kind : Int) (w : World) (hl : AvsAt w v l) :
    Calls Tryz.prog 167 #[v, .int .i64 kind] w fun e w' => e = .returned (.tuple #[.string (findAv kind l).1, .bool (findAv kind l).2]) ∧ Upd [] w w' := by
  obtain ⟨ao, cap, rfl, h1, h2, -⟩ := id hl
  obtain ⟨n, hn⟩ : ∃ n, n = l.length := ⟨_, rfl⟩
  rw [← hn] at h1
  rw [← hn]
  have HL := Lib.hid hl
  have HN := Lib.hid hn
  simp only [maxLen] at h2
  clear hl hn
  have A0 := Blk.new w 3 #[Value.int IntKind.i64 kind]
  have U0 := Lib.hid ((Upd.refl [] w).alloc (Obj.cells #[Value.int IntKind.i64 kind] 3))
  have HA : Hid (∀ W, Upd [] (w.alloc (Obj.cells #[Value.int IntKind.i64 kind] 3)) W → W.cell? ⟨w.heap.size, 0, none⟩ = some (.int .i64 kind)) := fun W hu => (A0.upd hu (by simp)).cell 0
  clear A0
  have HS := Lib.hid (ixa_spec (avIs kind) l 0)
  go_enter Tryz.func167, Tryz.ntmps167
  go_wp2_with fail
  refine (indexAv_any 173 _ (avIs kind) l _ _ ((by rw [HN.out]; exact HL.out : AvsAt w (.slice ao n cap) l).upd U0.out) (fun _ _ => by kernel_rfl) (fun t ht W hu => avFind1_any kind t _ W (HA.out W hu))).mono ?_
  rintro e w1 ⟨rfl, hu⟩
  have HU := Lib.hid (U0.out.trans hu)
  clear hu
  rcases HS.out with ⟨h1, h2⟩ | ⟨i, t, h1, h2, h3⟩
  · rw [h1]
    have HF : Hid (findAv kind l = (⟨#[]⟩, false)) := by show _ = _; rw [findAv, h2]
    clear h1 h2
    go_wp2_with fail
    go_ret2
    rw [HF.out]
    exact ⟨rfl, HU.out⟩
  · rw [h1, Nat.zero_add]
    have HF : Hid (findAv kind l = (t.val, true)) := by show _ = _; rw [findAv, h3]
    have hil : i < n := by rw [HN.out]; exact (List.getElem?_eq_some_iff.1 h2).1
    obtain ⟨ao', cap', e0, _, _, h4⟩ := HL.out.upd HU.out
    injection e0 with e0 _ e2
    subst e0 e2
    obtain ⟨q, rfl, c0, c1, c2, c3, c4⟩ := h4 i t h2
    clear h4 h1 h2 h3
    go_wp2_with fail
    go_ret2
    rw [HF.out]
    exact ⟨rfl, HU.out⟩

end Go.Proofs.YtljiichcmljbgaaGreat
namespace Go.Proofs.YtljiichcmljbgaaGreat
open Go.RowKit
set_option linter.unusedSimpArgs false
set_option maxRecDepth 100000
set_option linter.unusedVariables false

set_option maxHeartbeats 400000 in
theorem avpIn_any (n a b : Int) (w : World) :
    Calls Tryz.prog 122 #[.int .i64 n, .int .i64 a, .int .i64 b] w fun e w' => e = .returned (.bool (decide (a ≤ n) && decide (n ≤ b))) ∧ w = w' := by
  go_enter Tryz.func122, Tryz.ntmps122
  go_wp2
  all_goals
    go_ret
    refine ⟨?_, rfl⟩
    simp_all
    try omega

def numAv (kind v : Int) (n : Nat) : Av := ⟨true, false, 0, kind, be n v⟩
set_option maxHeartbeats 2000000 in
theorem num_ok (kind v : Int) (n : Nat) (hn : 1 ≤ n ∧ n ≤ 8) (w : World) :
    Calls Tryz.prog 27 #[.int .i64 kind, .int .i64 v, .int .i64 n] w fun e w' => e = .returned (numAv kind v n).agg ∧ Upd [] w w' := by
  have info5 : (Tryz.prog.info? 5).map (fun i => (i.zero, i.size, i.bytes)) = some (some (.int .u8 0), 1, 1) := by kernel_rfl
  have hmk := run_make_row' (P := Tryz.prog) 147 5 (.int .u8 0) 1 Tryz.underlying147 info5 rfl .i64 .i64 n (by omega) (by omega)
  simp only [Av.agg, numAv]
  have hin : (decide (1 ≤ (n : Int)) && decide ((n : Int) ≤ 8)) = true := by simp; omega
  go_enter Tryz.func27, Tryz.ntmps27
  go_wp2_with fail
  refine (avpIn_any _ _ _ _).mono ?_
  rintro e w' ⟨rfl, rfl⟩
  go_wp2
  go_loopg [20] n (fun m s20 wr => ∃ k : Nat, k + m = n ∧ s20 = .int .i64 k ∧ Upd [] w wr ∧ Blk wr w.heap.size 67 #[.bool false, .bool false, .int .i64 0, .int .i64 0, .string ⟨#[]⟩] ∧
    Blk wr (w.heap.size + 1) 67 #[.bool true, .bool false, .int .i64 0, .int .i64 kind, .string ⟨#[]⟩] ∧ wr.rowIs (w.heap.size + 2) 5 n (fun j => .int .u8 (if n ≤ j + k then byteAt v n j else 0)))
  case atStart =>
    refine ⟨0, by omega, rfl, (((Upd.refl _ _).alloc _).alloc _).alloc _, ((Blk.new _ _ _).alloc _).alloc _, ?_, ?_⟩
    · have h := (Blk.new (w.alloc (Obj.cells #[Value.bool false, Value.bool false, Value.int IntKind.i64 0, Value.int IntKind.i64 0, Value.string ⟨#[]⟩] 67)) 67 #[.bool true, .bool false, .int .i64 0, .int .i64 kind, .string ⟨#[]⟩])
      have hz : (w.alloc (Obj.cells #[Value.bool false, Value.bool false, Value.int IntKind.i64 0, Value.int IntKind.i64 0, Value.string ⟨#[]⟩] 67)).heap.size = w.heap.size + 1 := by simp
      rw [hz] at h
      exact h.alloc _
    · have h := World.rowIs_made ((w.alloc (Obj.cells #[Value.bool false, Value.bool false, Value.int IntKind.i64 0, Value.int IntKind.i64 0, Value.string ⟨#[]⟩] 67)).alloc (Obj.cells #[.bool true, .bool false, .int .i64 0, .int .i64 kind, .string ⟨#[]⟩] 67)) (.int .u8 0) n 5
      have hz : ((w.alloc (Obj.cells #[Value.bool false, Value.bool false, Value.int IntKind.i64 0, Value.int IntKind.i64 0, Value.string ⟨#[]⟩] 67)).alloc (Obj.cells #[.bool true, .bool false, .int .i64 0, .int .i64 kind, .string ⟨#[]⟩] 67)).heap.size = w.heap.size + 2 := by simp
      rw [hz] at h
      refine h.congr fun j hj => ?_
      rw [if_neg (by omega)]
  case round =>
    obtain ⟨k, hk, rfl, hu, b0, b1, hr⟩ := hrel
    by_cases t : k < n
    · have hf := hr.frozen (n - 1 - k)
      have hc := hr.cell (i := n - 1 - k) (by omega)
      have HX := Lib.hid (And.intro hu (And.intro b0 (And.intro b1 hr)))
      clear hu b0 b1 hr
      go_wp2
      go_roundg (n - (k + 1))
      case rel =>
        obtain ⟨hu, b0, b1, hr⟩ := HX.out
        refine ⟨k + 1, by omega, by go_num, hu.setCell _ (.inr (by show w.heap.size ≤ w.heap.size + 1 + 1; omega)), b0.far _ (by show w.heap.size ≠ w.heap.size + 1 + 1; omega), b1.far _ (by show w.heap.size + 1 ≠ w.heap.size + 1 + 1; omega), ?_⟩
        refine (hr.set _ _).congr fun j hj => ?_
        by_cases hjk : j = n - 1 - k
        · subst hjk
          rw [if_pos rfl, if_pos (by omega), byteAt, show n - 1 - (n - 1 - k) = k by omega]
        · rw [if_neg hjk]
          by_cases h2 : n ≤ j + k
          · rw [if_pos h2, if_pos (by omega)]
          · rw [if_neg h2, if_neg (by omega)]
      case measure => omega
    · obtain rfl : k = n := by omega
      have hcv := run_convert_bytes_arg (P := Tryz.prog) wr 147 5 Tryz.underlying147 Tryz.underlying5 (w.heap.size + 1 + 1) 0 k k ((List.range k).map (byteAt v k)) (by simp) (fun i hi => by rw [Nat.zero_add]; exact (hr.cell hi).trans (by simp [hi])) 9 Tryz.underlying9
      have hb : strOfNums ((List.range k).map (byteAt v k)) = be k v := rfl
      rw [hb] at hcv
      have HX := Lib.hid (And.intro hu (And.intro b0 b1))
      have s0 := b0.cell 0
      have s1 := b0.cell 1
      have s2 := b0.cell 2
      have s3 := b0.cell 3
      have s4 := b0.cell 4
      have u0 := b0.frozen 0
      have u1 := b0.frozen 1
      have u2 := b0.frozen 2
      have u3 := b0.frozen 3
      have u4 := b0.frozen 4
      have r0 := b1.cell 0
      have r1 := b1.cell 1
      have r2 := b1.cell 2
      have r3 := b1.cell 3
      have r4 := b1.cell 4
      have y4 := b1.frozen 4
      simp at s0 s1 s2 s3 s4 r0 r1 r2 r3 r4
      clear hu b0 b1 hr hb
      go_wp2
      obtain ⟨hu, b0, b1⟩ := HX.out
      have RR := (((((b0.far (p := ⟨w.heap.size + 1, 4, none⟩) (.string (be k v)) (by show w.heap.size ≠ w.heap.size + 1; omega)).set_ 0 (.bool true)).set_ 1 (.bool false)).set_ 2 (.int .i64 0)).set_ 3 (.int .i64 kind)).set_ 4 (.string (be k v))
      have q0 := RR.cell 0
      have q1 := RR.cell 1
      have q2 := RR.cell 2
      have q3 := RR.cell 3
      have q4 := RR.cell 4
      simp at q0 q1 q2 q3 q4
      exact bodyPost_ret (v := .agg #[.bool true, .bool false, .int .i64 0, .int .i64 kind, .string (be k v)]) (by simp [results, Tryz.results27, go_sem, q0, q1, q2, q3, q4]) rfl ⟨rfl, (((((hu.setCell _ (.inr (Nat.le_succ _))).setCell _ (.inr (Nat.le_refl _))).setCell _ (.inr (Nat.le_refl _))).setCell _ (.inr (Nat.le_refl _))).setCell _ (.inr (Nat.le_refl _))).setCell _ (.inr (Nat.le_refl _))⟩
end Go.Proofs.YtljiichcmljbgaaGreat
namespace Go.Proofs.YtljiichcmljbgaaGreat
open Go.RowKit
set_option maxRecDepth 100000
set_option linter.unusedSimpArgs false
set_option linter.unusedVariables false

/-- A slice of ints. -/
def IntsAt (w : World) (v : Value) (l : List Int) : Prop :=
  ∃ ao cap, v = .slice ao l.length cap ∧ l.length ≤ cap ∧ cap ≤ maxLen ∧ ∀ i a, l[i]? = some a → ∃ q, ao = some q ∧ w.cell? (q.add i) = some (.int .i64 a)
theorem IntsAt.upd {w w' : World} {v : Value} {l : List Int} (h : IntsAt w v l) (hu : Upd [] w w') : IntsAt w' v l := by
  obtain ⟨ao, cap, rfl, h1, h2, h3⟩ := h
  refine ⟨ao, cap, rfl, h1, h2, fun i t ht => ?_⟩
  obtain ⟨q, rfl, k⟩ := h3 i t ht
  exact ⟨q, rfl, (hu.cell (cell_lt' k) (by simp)).trans k⟩
theorem IntsAt.nil (w : World) : IntsAt w (.slice none 0 0) [] := ⟨none, 0, rfl, by simp, by simp [maxLen], by simp⟩
theorem IntsAt.of_blk {w : World} {g : Nat} {t : TypeId} {l : List Int} (h : Blk w g t (l.map (Value.int .i64)).toArray) (hl : l.length ≤ maxLen) : IntsAt w (.slice (some ⟨g, 0, none⟩) l.length l.length) l := by
  refine ⟨_, _, rfl, Nat.le_refl _, hl, fun i x hx => ⟨_, rfl, ?_⟩⟩
  rw [add_plain', Nat.zero_add, h.cell]
  simp [hx]

/-- The place of the first one that is so, or -1. -/
def ixi (p : Int → Bool) : List Int → Nat → Int
  | [], _ => -1
  | t :: l, k => if p t = true then k else ixi p l (k + 1)
theorem ixi_any (p : Int → Bool) (l : List Int) (k : Nat) : decide (0 ≤ ixi p l k) = l.any p := by
  induction l generalizing k with
  | nil => simp [ixi]
  | cons t l ih =>
    rw [ixi, List.any_cons]
    cases h : p t with
    | true => simp
    | false => simp [ih]

def overWord (n : Int) : Bool := decide (n < 0) || decide (65535 < n)
/-- Numbers of two bytes, one behind the other. -/
def wordsOf : List Int → ByteArray → ByteArray
  | [], s => s
  | n :: l, s => wordsOf l (s ++ be 2 n)
end Go.Proofs.YtljiichcmljbgaaGreat
namespace Go.Proofs.YtljiichcmljbgaaGreat
open Go.RowKit
set_option linter.unusedSimpArgs false
set_option linter.unusedVariables false

/-- A way. -/
structure Wy where
  tunnel : Int
  session : Int
  seq : Bool
  next : Int
  last : Int
  came : Bool
  put : Int
  taken : Int
  missed : Int
def Wy.cells (x : Wy) : Array Value := #[.int .i64 x.tunnel, .int .i64 x.session, .bool x.seq, .int .u16 x.next, .int .i64 x.last, .bool x.came, .int .i64 x.put, .int .i64 x.taken, .int .i64 x.missed]
/-- A data message. -/
structure Ld where
  tunnel : Int
  session : Int
  seq : Bool
  ns : Int
  nr : Int
  data : ByteArray
def Ld.agg (l : Ld) : Value := .agg #[.int .i64 l.tunnel, .int .i64 l.session, .bool l.seq, .int .i64 l.ns, .int .i64 l.nr, .string l.data]
def Ld.zero : Ld := ⟨0, 0, false, 0, 0, ⟨#[]⟩⟩
def bef (a b : Int) : Bool := decide (0 < (b - a) % 65536) && decide ((b - a) % 65536 < 32768)
def up1 (n : Int) : Int := min (n + 1) 4611686018427387904
structure Wy.ok (x : Wy) : Prop where
  put : 0 ≤ x.put ∧ x.put ≤ 4611686018427387904
  taken : 0 ≤ x.taken ∧ x.taken ≤ 4611686018427387904
  missed : 0 ≤ x.missed ∧ x.missed ≤ 4611686018427387904
  next : 0 ≤ x.next ∧ x.next < 65536
  last : 0 ≤ x.last ∧ x.last < 65536
  tunnel : 1 ≤ x.tunnel ∧ x.tunnel ≤ 65535
  session : 1 ≤ x.session ∧ x.session ≤ 65535
theorem up1_ok {n : Int} (h : 0 ≤ n ∧ n ≤ 4611686018427387904) : 0 ≤ up1 n ∧ up1 n ≤ 4611686018427387904 := by
  unfold up1; omega
def Wy.late (x : Wy) (l : Ld) : Bool := x.came && (decide (l.ns % 65536 = x.last) || bef (l.ns % 65536) x.last)
def Wy.get (x : Wy) (l : Ld) : Wy × ByteArray × Bool :=
  if x.seq = true ∧ l.seq = true then
    if x.late l = true then ({ x with missed := up1 x.missed }, ⟨#[]⟩, false)
    else ({ x with last := l.ns % 65536, came := true, taken := up1 x.taken }, l.data, true)
  else ({ x with taken := up1 x.taken }, l.data, true)
theorem Wy.get_ok {x : Wy} (h : x.ok) (l : Ld) : (x.get l).1.ok := by
  unfold Wy.get
  split
  · split
    · exact { h with missed := up1_ok h.missed }
    · exact { h with taken := up1_ok h.taken, last := by simp only; omega }
  · exact { h with taken := up1_ok h.taken }
def Ld.bad (l : Ld) : Bool := [l.tunnel, l.session, l.ns, l.nr].any (fun n => decide (n < 0) || decide (65535 < n)) || (!l.seq && (!decide (l.ns = 0) || !decide (l.nr = 0)))
def Ld.bytes (l : Ld) : ByteArray :=
  if l.seq = true then strOfNums [72, 2] ++ wordsOf [(l.data.size : Int) + 12, l.tunnel, l.session, l.ns, l.nr] ⟨#[]⟩ ++ l.data
  else strOfNums [64, 2] ++ wordsOf [(l.data.size : Int) + 8, l.tunnel, l.session] ⟨#[]⟩ ++ l.data
def Ld.put (l : Ld) : ByteArray × Int := if l.bad = true then (⟨#[]⟩, 1) else if 1460 < l.data.size then (⟨#[]⟩, 2) else (l.bytes, 0)
def Wy.load (x : Wy) (d : ByteArray) : Ld := ⟨x.tunnel, x.session, x.seq, if x.seq = true then x.next else 0, 0, d⟩
def Wy.lay (x : Wy) (d : ByteArray) : Wy × ByteArray × Int :=
  if 1460 < d.size then (x, ⟨#[]⟩, 2) else ({ x with next := (x.next + 1) % 65536, put := up1 x.put }, (x.load d).bytes, 0)
theorem Wy.lay_ok {x : Wy} (h : x.ok) (d : ByteArray) : (x.lay d).1.ok := by
  unfold Wy.lay
  split
  · exact h
  · exact { h with put := up1_ok h.put, next := by simp only; omega }
theorem Wy.load_put {x : Wy} (h : x.ok) (d : ByteArray) : (x.load d).put = ((x.lay d).2.1, (x.lay d).2.2) := by
  have hb : (x.load d).bad = false := by
    have h1 := h.next; have h2 := h.tunnel; have h3 := h.session
    unfold Ld.bad Wy.load
    cases x.seq <;> simp <;> omega
  unfold Ld.put Wy.lay
  rw [hb, if_neg (by simp)]
  have : (x.load d).data = d := rfl
  rw [this]
  split <;> rfl

/-- A proxy. -/
structure Px where
  first : List Tg
  tx : List Tg
  rx : List Tg
  kind : Int
  id : Int
  name : ByteArray
  value : ByteArray
  reply : ByteArray
def Px.zero : Px := ⟨[], [], [], 0, 0, ⟨#[]⟩, ⟨#[]⟩, ⟨#[]⟩⟩
def Px.val (p : Px) (f t r : Value) : Value := .agg #[f, t, r, .int .i64 p.kind, .int .i64 p.id, .string p.name, .string p.value, .string p.reply]
def Px.cells (p : Px) (f t r : Value) : Array Value := #[f, t, r, .int .i64 p.kind, .int .i64 p.id, .string p.name, .string p.value, .string p.reply]
def textAv (kind : Int) (s : ByteArray) : Av := ⟨true, false, 0, kind, s⟩
def low8 (n : Int) : Int := bits .and .i64 n 255
def Px.auth (p : Px) : List Av :=
  if p.kind = 2 then [textAv 30 p.name, numAv 32 (low8 p.id) 2, textAv 31 p.value, textAv 33 p.reply]
  else if p.kind = 3 then [textAv 30 p.name, numAv 32 (low8 p.id) 2, textAv 33 p.reply] else []
def Px.link (p : Px) : List Av := [textAv 26 (encOpts p.first), textAv 27 (encOpts p.tx), textAv 28 (encOpts p.rx)]
def Px.all (p : Px) : List Av := p.link ++ ((if p.kind = 0 then [] else [numAv 29 p.kind 2]) ++ p.auth)
def bigAv (x : Av) : Bool := decide (1000 < x.val.size)
def Px.linkBad (p : Px) : Bool := !decide ((putOpts p.first).2 = 0) || (!decide ((putOpts p.tx).2 = 0) || !decide ((putOpts p.rx).2 = 0))
def Px.build (p : Px) : List Av := if p.linkBad = true then [] else if p.all.any bigAv = true then [] else p.all

def cntAv (kind : Int) (l : List Av) : Nat := l.countP (avIs kind)
def txtAv (l : List Av) (kind : Int) : ByteArray := if cntAv kind l = 1 then (findAv kind l).1 else ⟨#[]⟩
def oneAv (l : List Av) (kind : Int) : Bool := decide (cntAv kind l = 1)
def nrAv (l : List Av) (kind : Int) : Int := (valueB (txtAv l kind)).1
def nrOk (l : List Av) (kind lo hi : Int) : Bool := oneAv l kind && (decide ((txtAv l kind).size = 2) && (decide (lo ≤ nrAv l kind) && decide (nrAv l kind ≤ hi)))
def osAv (l : List Av) (kind : Int) : List Tg := (getOpts (txtAv l kind)).1
def osOk (l : List Av) (kind : Int) : Bool := oneAv l kind && decide ((getOpts (txtAv l kind)).2 = 0)
def claimed (l : List Av) : Px × Bool :=
  if nrAv l 29 ≠ 2 ∧ nrAv l 29 ≠ 3 then ({ Px.zero with kind := nrAv l 29 }, nrOk l 29 2 4)
  else if nrAv l 29 = 2 then
    ({ Px.zero with kind := nrAv l 29, name := txtAv l 30, reply := txtAv l 33, id := nrAv l 32, value := txtAv l 31 },
      ((((nrOk l 29 2 4 && oneAv l 30) && oneAv l 33) && nrOk l 32 0 255) && oneAv l 31) && (!decide ((txtAv l 31).size = 0) && decide ((txtAv l 31).size ≤ 60)))
  else ({ Px.zero with kind := nrAv l 29, name := txtAv l 30, reply := txtAv l 33, id := nrAv l 32 }, ((nrOk l 29 2 4 && oneAv l 30) && oneAv l 33) && nrOk l 32 0 255)
def linked (l : List Av) : Bool := (osOk l 26 && osOk l 27) && osOk l 28
def parsed (l : List Av) : Px :=
  let p := if (claimed l).2 = true then (claimed l).1 else Px.zero
  if linked l = true then { p with first := osAv l 26, tx := osAv l 27, rx := osAv l 28 } else p
end Go.Proofs.YtljiichcmljbgaaGreat
