/- The walk of CtlBrings. -/
import Derived.Test.YtclodmcdimaccaaCtlV
import Derived.Test.YtclodmcdimaccaaCtlO
import Derived.Test.YtclodmcdimaccaaCtlBrP
import Derived.Test.YtclodmcdimaccaaSep
import Derived.Test.YtclodmcdimaccaaTexts
import Derived.Test.YtclodmcdimaccaaStrs
import Derived.Test.YtclodmcdimaccaaNum
import Derived.Test.YtclodmcdimaccaaRes
import Derived.Test.YtclodmcdimaccaaFacts
import Derived.Deep.CutRange
import Derived.Deep.CutBlock
namespace Go.Proofs.Ytclodmcdimaccaa
open Go.RowKit
set_option linter.unusedSimpArgs false
set_option linter.unusedVariables false

def ctlT (b : Nat) (c : C) (own : List Nat) : Thing := ⟨own, fun w => CtlAt w b c own, fun _ _ _ h hu hF => h.upd hu hF, fun _ h => h.lt⟩
theorem items_oneCell (l : List Item) : ∀ u ∈ items l, u.oneCell' = true := by
  intro u hu
  simp only [items, List.mem_flatMap] at hu
  obtain ⟨x, _, hu⟩ := hu
  simp [Item.cells] at hu
  rcases hu with rfl | rfl | rfl <;> rfl
/-- All that CtlBrings keeps in memory. -/
def brL (b0 b1 BE BS BG BY : Nat) (c0 c1 : C) (s0 s1 g0 g1 : List ByteArray) (y0 y1 : List Item) (vs0 vs1 vg0 vg1 vy0 vy1 : Value) (o0 o1 os0 os1 og0 og1 oy0 oy1 : List Nat) : List Thing :=
  [ctlT b0 c0 o0, ctlT b1 c1 o1, blkT BE 37 #[.pointer (some ⟨b0, 0, none⟩), .pointer (some ⟨b1, 0, none⟩)], blkT BS 38 #[vs0, vs1], blkT BG 38 #[vg0, vg1], blkT BY 41 #[vy0, vy1],
   ownT 9 1 vs0 s0.length (strs s0) os0, ownT 9 1 vs1 s1.length (strs s1) os1, ownT 9 1 vg0 g0.length (strs g0) og0, ownT 9 1 vg1 g1.length (strs g1) og1,
   ownT 30 3 vy0 y0.length (items y0) oy0, ownT 30 3 vy1 y1.length (items y1) oy1]
structure BrSt (w0 w : World) (b0 b1 BE BS BG BY : Nat) (f window : Int) (n m : Nat) : Prop where
  ex : ∃ c0 c1 s0 s1 g0 g1 y0 y1 vs0 vs1 vg0 vg1 vy0 vy1 o0 o1 os0 os1 og0 og1 oy0 oy1,
    Sep w0 w (brL b0 b1 BE BS BG BY c0 c1 s0 s1 g0 g1 y0 y1 vs0 vs1 vg0 vg1 vy0 vy1 o0 o1 os0 os1 og0 og1 oy0 oy1) ∧ Both f window n c0 c1 s0 g1 s1 g0 y0 y1 ∧ y0.length + y1.length ≤ 42 * m
theorem BrSt.keep {w0 w w' : World} {b0 b1 BE BS BG BY : Nat} {f window : Int} {n m : Nat} (h : BrSt w0 w b0 b1 BE BS BG BY f window n m) (hu : Upd [] w w') : BrSt w0 w' b0 b1 BE BS BG BY f window n m := by
  obtain ⟨c0, c1, s0, s1, g0, g1, y0, y1, vs0, vs1, vg0, vg1, vy0, vy1, o0, o1, os0, os1, og0, og1, oy0, oy1, sp, bo, hy⟩ := h
  exact ⟨c0, c1, s0, s1, g0, g1, y0, y1, vs0, vs1, vg0, vg1, vy0, vy1, o0, o1, os0, os1, og0, og1, oy0, oy1, sp.keep hu, bo, hy⟩
/-- Numbers that came in. -/
def IntsIn (w : World) (a : Option Addr) (n : Nat) : Prop := ∀ i, i < n → ∃ q k, a = some q ∧ w.cell? (q.add i) = some (.int .i64 k)
theorem IntsIn.upd {w w' : World} {a : Option Addr} {n : Nat} (h : IntsIn w a n) (hu : Upd [] w w') : IntsIn w' a n := fun i hi => by
  obtain ⟨q, k, rfl, h1⟩ := h i hi
  exact ⟨q, k, rfl, (hu.cell (cell_lt' h1) (by simp)).trans h1⟩

theorem Rd.cut {w : World} {size n m : Nat} {ao : Option Addr} {c : Nat} {xs : List Value} (h : Rd w size (.slice ao n c) n xs) (hm : m ≤ n) : Rd w size (.slice ao m c) m (xs.take (m * size)) := by
  obtain ⟨ao, c, e, h1, h2, h3, h4, h5⟩ := h
  injection e with e1 e2 e3
  subst e1 e3
  have hle : m * size ≤ n * size := Nat.mul_le_mul_right _ hm
  refine ⟨_, _, rfl, by omega, h2, ?_, fun u hu => h4 u (List.mem_of_mem_take hu), fun h0 => ?_⟩
  · rw [List.length_take]; omega
  · obtain ⟨a, ha, h6⟩ := h5 (by omega)
    refine ⟨a, ha, fun j u hj => h6 j u ?_⟩
    rw [List.getElem?_take] at hj
    split at hj
    · exact hj
    · cases hj
/-- Out and its append on the way: stage by stage. -/
def outA (w0 : World) (L : List Thing) (a b BY : Nat) (c : C) (y : List Item) (st : Value → Array Value) (vs : List Value) (w : World) : Prop := match vs with
  | [] => Sep w0 w L
  | [v] => ∃ o p, Sep w0 w (ownT 30 3 v c.out.2.length (items c.out.2) p :: L.set a (ctlT b c.out.1 o))
  | [_, u] => ∃ o q, Sep w0 w ((L.set a (ctlT b c.out.1 o)).set (10 + a) (ownT 30 3 u (y ++ c.out.2).length (items (y ++ c.out.2)) q))
  | [_, u, _] => ∃ o q, Sep w0 w (((L.set a (ctlT b c.out.1 o)).set (10 + a) (ownT 30 3 u (y ++ c.out.2).length (items (y ++ c.out.2)) q)).set 5 (blkT BY 41 (st u)))
  | _ => False
theorem outA_BY {w0 w : World} {L : List Thing} {a b BY : Nat} {c : C} {y : List Item} {st : Value → Array Value} {vs : List Value} {cs : Array Value} (hL : L[5]? = some (blkT BY 41 cs)) (ha : a ≤ 1) (hv : vs.length ≤ 1)
    (h : outA w0 L a b BY c y st vs w) : Blk w BY 41 cs := by
  match vs, hv with
  | [], _ => exact (h : Sep _ _ _).get 5 hL
  | [v], _ =>
    obtain ⟨o, p, h⟩ := h
    refine (h.drop).get (t := blkT BY 41 cs) 5 ?_
    rw [List.getElem?_set_ne (by omega)]
    exact hL
/-- An item cut out of the way, stage by stage. -/
def cutA (w0 : World) (L : List Thing) (BY : Nat) (l1 l2 : List Item) (st : Value → Array Value) (vs : List Value) (w : World) : Prop := match vs with
  | [] => Sep w0 w L
  | [v] => ∃ p, Sep w0 w (ownT 30 3 v l1.length (items l1) p :: L)
  | [_, u] => ∃ p, Sep w0 w (ownT 30 3 u (l1 ++ l2).length (items (l1 ++ l2)) p :: L)
  | [_, u, _] => ∃ p, Sep w0 w (ownT 30 3 u (l1 ++ l2).length (items (l1 ++ l2)) p :: L.set 6 (blkT BY 41 (st u)))
  | _ => False
theorem cutA_L {w0 w : World} {L : List Thing} {BY : Nat} {l1 l2 : List Item} {st : Value → Array Value} {vs : List Value} (hv : vs.length ≤ 1) (h : cutA w0 L BY l1 l2 st vs w) : Sep w0 w L := by
  match vs, hv with
  | [], _ => exact h
  | [v], _ =>
    obtain ⟨p, h⟩ := h
    exact h.drop
/-- An item taken, and what is told put behind what was told. -/
def takeA (w0 : World) (L : List Thing) (b bb BG : Nat) (c : C) (x : Item) (g : List ByteArray) (o : List Nat) (st : Value → Array Value) (vs : List Value) (w : World) : Prop := match vs with
  | [] => Sep w0 w L
  | [v] => ∃ p, Sep w0 w (ownT 9 1 v (c.take x.ns x.nr x.body).2.length (strs (c.take x.ns x.nr x.body).2) p :: L.set (b + 1) (ctlT bb (c.take x.ns x.nr x.body).1 o))
  | [_, u] => ∃ q, Sep w0 w ((L.set (b + 1) (ctlT bb (c.take x.ns x.nr x.body).1 o)).set (9 + b) (ownT 9 1 u (g ++ (c.take x.ns x.nr x.body).2).length (strs (g ++ (c.take x.ns x.nr x.body).2)) q))
  | [_, u, _] => ∃ q, Sep w0 w (((L.set (b + 1) (ctlT bb (c.take x.ns x.nr x.body).1 o)).set (9 + b) (ownT 9 1 u (g ++ (c.take x.ns x.nr x.body).2).length (strs (g ++ (c.take x.ns x.nr x.body).2)) q)).set 5 (blkT BG 38 (st u)))
  | _ => False
theorem takeA_BG {w0 w : World} {L : List Thing} {b bb BG : Nat} {c : C} {x : Item} {g : List ByteArray} {o : List Nat} {st : Value → Array Value} {vs : List Value} {cs : Array Value} (hL : L[5]? = some (blkT BG 38 cs)) (hb : b ≤ 1) (hv : vs.length ≤ 1)
    (h : takeA w0 L b bb BG c x g o st vs w) : Blk w BG 38 cs := by
  match vs, hv with
  | [], _ => exact (h : Sep _ _ _).get 5 hL
  | [v], _ =>
    obtain ⟨p, h⟩ := h
    refine (h.drop).get (t := blkT BG 38 cs) 5 ?_
    rw [List.getElem?_set_ne (by omega)]
    exact hL
theorem C.take_len2 (c : C) (ns nr : Int) (body : ByteArray) : (c.take ns nr body).2.length ≤ 1 := by
  unfold C.take
  (repeat' split) <;> simp
theorem items_take (l : List Item) : ∀ k, items (l.take k) = (items l).take (k * 3) := by
  induction l with
  | nil => intro k; simp [items]
  | cons x l ih =>
    intro k
    cases k with
    | zero => simp [items]
    | succ k =>
      have h := ih k
      simp only [items] at h
      rw [List.take_succ_cons, items, List.flatMap_cons, h, items, List.flatMap_cons, show (k + 1) * 3 = k * 3 + 3 by omega]
      rfl
theorem items_drop (l : List Item) : ∀ k, items (l.drop k) = (items l).drop (k * 3) := by
  induction l with
  | nil => intro k; simp [items]
  | cons x l ih =>
    intro k
    cases k with
    | zero => simp [items]
    | succ k =>
      have h := ih k
      simp only [items] at h
      rw [List.drop_succ_cons, items, h, items, List.flatMap_cons, show (k + 1) * 3 = k * 3 + 3 by omega]
      rfl
theorem Rd.tail {w : World} {size n m : Nat} {ao : Option Addr} {c : Nat} {xs : List Value} (h : Rd w size (.slice ao n c) n xs) (hm : m ≤ n) : Rd w size (sliced ao m n c size) (n - m) (xs.drop (m * size)) := by
  obtain ⟨ao, c, e, h1, h2, h3, h4, h5⟩ := h
  injection e with e1 e2 e3
  subst e1 e3
  have hle : m * size ≤ n * size := Nat.mul_le_mul_right _ hm
  refine ⟨_, _, rfl, by omega, by omega, ?_, fun u hu => h4 u (List.mem_of_mem_drop hu), fun h0 => ?_⟩
  · rw [List.length_drop, h3, Nat.sub_mul]
  · obtain ⟨a, rfl, h6⟩ := h5 (by omega)
    rw [if_neg (by omega)]
    refine ⟨_, rfl, fun j u hj => ?_⟩
    rw [add_add]
    rw [List.getElem?_drop] at hj
    exact h6 _ u hj
theorem size_item (W : World) : (sizeOf (Try.prog.elem 31)).run Try.prog W = .ok 3 W := by kernel_rfl
theorem run_suffix {P : Program} (t : TypeId) (ht : P.underlying t = some (.slice (P.elem t))) (s : Nat) (hs : ∀ W, (sizeOf (P.elem t)).run P W = .ok s W) (a : Option Addr) (n c m : Nat) (hm : m ≤ n) (v : Value) (hv : v = sliced a m n c s) (W : World) :
    (Instr.slice t (.slice a n c) (some (.int .i64 (m : Int))) none none).run P W = .ok v W := by
  rw [run_slice_l W t a n c ht .i64 _ (by omega) (by omega), hs, hv]
  simp [Result.andThen]
theorem Both.small {f window : Int} {n : Nat} {a b : C} {sa ga sb gb : List ByteArray} {wa wb : List Item} (h : Both f window n a b sa ga sb gb wa wb) {x : Item} (hx : x ∈ wa) : x.body.size ≤ 3 := by
  obtain ⟨A, hA⟩ := h.fwd
  by_cases h0 : x.body.size = 0
  · omega
  · obtain ⟨i, _, _, h3⟩ := hA.way x hx h0
    have := hA.thr _ (List.mem_of_getElem? h3)
    omega
theorem cut_sub {y : List Item} (k : Nat) : ∀ x ∈ y.take k ++ y.drop (k + 1), x ∈ y := by
  intro x hx
  rcases List.mem_append.1 hx with hx | hx
  · exact List.mem_of_mem_take hx
  · exact List.mem_of_mem_drop hx
theorem C.out_len2 {c : C} (h : c.ok) : c.out.2.length ≤ 42 := by
  have hl : ∀ (n : Nat) (c : C) (l : List Item), (C.outLoop n (c, l)).2.length ≤ l.length + c.waits.length := by
    intro n
    induction n with
    | zero => intro c l; simp [C.outLoop]
    | succ n ih =>
      intro c l
      unfold C.outLoop
      split
      · have h := ih c.fly (l ++ [c.flyItem])
        have : 0 < c.waits.length := by rename_i h1; exact h1.1
        have hw : c.fly.waits.length = c.waits.length - 1 := by simp [C.fly]
        rw [hw, List.length_append, List.length_singleton] at h
        omega
      · simp
  have h1 := C.outAgain_len h
  have h2 := hl c.waits.length c c.outAgain
  unfold C.out
  split
  · simp
  · unfold C.outEnd
    show (if _ then _ else _ : List Item).length ≤ 42
    split
    · rw [List.length_append]; simp only [List.length_singleton]; omega
    · omega
theorem run_prefix {P : Program} (t : TypeId) (ht : P.underlying t = some (.slice (P.elem t))) (s : Nat) (hs : ∀ W, (sizeOf (P.elem t)).run P W = .ok s W) (a : Option Addr) (n c m : Nat) (hm : m ≤ c) (W : World) :
    (Instr.slice t (.slice a n c) none (some (.int .i64 (m : Int))) none).run P W = .ok (.slice a m c) W := by
  rw [run_slice_h W t a n c ht .i64 _ (by omega) (by omega), hs]
  cases a with
  | none => simp [sliced, Result.andThen]
  | some a => simp [sliced, Result.andThen, Addr.add]
theorem size_str (W : World) : (sizeOf (Try.prog.elem 27)).run Try.prog W = .ok 1 W := by kernel_rfl
/-- What is told is a first part of what was given: the book's word for it. -/
theorem said_first {w : World} {s g : List ByteArray} {ao bo : Option Addr} {c d : Nat} (hs : Rd w 1 (.slice ao s.length c) s.length (strs s)) (hg : Rd w 1 (.slice bo g.length d) g.length (strs g))
    (hl : g.length ≤ s.length) (h : s.take g.length = g) (n : Nat) :
    Calls Try.prog 16 #[.slice bo g.length d, .slice ao g.length c] (w.drewN n) fun e w' => e = .returned (.bool true) ∧ ∃ m, w' = w.drewN m := by
  have h1 := hs.cut hl
  rw [Nat.mul_one] at h1
  have h2 : (strs s).take g.length = strs g := by rw [strs, ← List.map_take, h]; rfl
  rw [h2] at h1
  have h3 := sameTexts_quiet g g _ _ (w.drewN n) (hg.upd ((Upd.refl _ _).drewN n)) (h1.upd ((Upd.refl _ _).drewN n))
  simp only [decide_true] at h3
  exact Calls.quiet_of h3

set_option maxRecDepth 100000 in
set_option maxHeartbeats 20000000 in
theorem ctlBrings_run (window first : Int) (a : Option Addr) (n cap : Nat) (a2 : Option Addr) (n2 cap2 : Nat) (hw : 1 ≤ window ∧ window ≤ 8) (hf : 0 ≤ first ∧ first ≤ 65535) (hn : n ≤ 60) (hn2 : n2 ≤ 400) (w : World)
    (hs : IntsIn w a n) (hp : IntsIn w a2 n2) :
    Calls Try.prog 5 #[.int .i64 window, .int .i64 first, .slice a n cap, .slice a2 n2 cap2] w fun e w' => e = .returned (.bool true) ∧ Upd [] w w' := by
  obtain ⟨hw1, hw2⟩ := hw
  obtain ⟨hf1, hf2⟩ := hf
  have NO : Hid (NewOk window 40 10 3 first) := by constructor <;> omega
  have HS := Lib.hid hs
  have HP := Lib.hid hp
  obtain ⟨i0, hi0, hz0, hz1, hz2⟩ := info_parts info_str
  obtain ⟨j0, ji0, jz0, jz1, jz2⟩ := info_parts info_item
  clear hs hp
  go_enter Try.func5, Try.ntmps5
  go_wp2_with fail
  refine (new_at NO.out w).mono ?_
  rintro e w1 ⟨rfl, h1, u1, z1⟩
  go_wp2_with fail
  refine (new_at NO.out w1).mono ?_
  rintro e w2 ⟨rfl, h2, u2, z2⟩
  go_wp2_with fail
  refine gen_world (fun W => BrSt w W w.heap.size w1.heap.size w2.heap.size (w2.heap.size + 1) (w2.heap.size + 1 + 1) (w2.heap.size + 1 + 1 + 1) first window 0 0) ?_ ?_
  · have ua := (((((Upd.refl [] w2).alloc (.cells #[.pointer (some ⟨w.heap.size, 0, none⟩), .pointer (some ⟨w1.heap.size, 0, none⟩)] 37)).alloc (.cells #[.slice none 0 0, .slice none 0 0] 38)).alloc (.cells #[.slice none 0 0, .slice none 0 0] 38)).alloc (.cells #[.slice none 0 0, .slice none 0 0] 41))
    refine ⟨⟨C.new window 40 10 3 first, C.new window 40 10 3 first, [], [], [], [], [], [], .slice none 0 0, .slice none 0 0, .slice none 0 0, .slice none 0 0, .slice none 0 0, .slice none 0 0, [w.heap.size], [w1.heap.size], [], [], [], [], [], [], ?_, Both.new ⟨hf1, hf2⟩ (by omega) _ _ _, by simp⟩⟩
    refine ⟨?_, ?_, ?_, (u1.trans u2).trans ua⟩
    · intro t ht
      simp only [brL, List.mem_cons, List.not_mem_nil, or_false] at ht
      rcases ht with rfl | rfl | rfl | rfl | rfl | rfl | rfl | rfl | rfl | rfl | rfl | rfl
      · exact (h1.keep u2).keep ua
      · exact h2.keep ua
      · exact (((Blk.new w2 _ _).alloc _).alloc _).alloc _
      · have h := ((Blk.new (w2.alloc (.cells #[.pointer (some ⟨w.heap.size, 0, none⟩), .pointer (some ⟨w1.heap.size, 0, none⟩)] 37)) 38 #[.slice none 0 0, .slice none 0 0]).alloc (.cells #[.slice none 0 0, .slice none 0 0] 38)).alloc (.cells #[.slice none 0 0, .slice none 0 0] 41)
        simp only [World.size_alloc] at h
        exact h
      · have h := (Blk.new ((w2.alloc (.cells #[.pointer (some ⟨w.heap.size, 0, none⟩), .pointer (some ⟨w1.heap.size, 0, none⟩)] 37)).alloc (.cells #[.slice none 0 0, .slice none 0 0] 38)) 38 #[.slice none 0 0, .slice none 0 0]).alloc (.cells #[.slice none 0 0, .slice none 0 0] 41)
        simp only [World.size_alloc] at h
        exact h
      · have h := Blk.new (((w2.alloc (.cells #[.pointer (some ⟨w.heap.size, 0, none⟩), .pointer (some ⟨w1.heap.size, 0, none⟩)] 37)).alloc (.cells #[.slice none 0 0, .slice none 0 0] 38)).alloc (.cells #[.slice none 0 0, .slice none 0 0] 38)) 41 #[.slice none 0 0, .slice none 0 0]
        simp only [World.size_alloc] at h
        exact h
      all_goals exact Own.nil _ _ _
    · simp [brL, ctlT, blkT, ownT]
      omega
    · intro t ht k hk
      have e1 := u1.size
      have e2 := u2.size
      simp only [brL, List.mem_cons, List.not_mem_nil, or_false] at ht
      rcases ht with rfl | rfl | rfl | rfl | rfl | rfl | rfl | rfl | rfl | rfl | rfl | rfl <;> simp [ctlT, blkT, ownT] at hk <;> omega
  intro W X
  have ST := Lib.hid X
  have HSZ : Hid (w.heap.size < w1.heap.size ∧ w1.heap.size < w2.heap.size) := ⟨z1, z2⟩
  clear X h1 h2 u1 u2 z1 z2
  generalize w2.heap.size + 1 + 1 + 1 = BY at *
  generalize w2.heap.size + 1 + 1 = BG at *
  generalize w2.heap.size + 1 = BS at *
  generalize w2.heap.size = BE at *
  generalize w1.heap.size = b1 at *
  obtain ⟨b0, hb0⟩ : ∃ b, b = w.heap.size := ⟨_, rfl⟩
  rw [← hb0] at ST
  rw [← hb0]
  clear hb0 HSZ
  go_loopg [17, 18] n2 (fun m s17 s18 wr => ∃ (i at_ : Nat), i + m = n2 ∧ s18 = .int .i64 i ∧ s17 = .int .i64 at_ ∧ at_ ≤ n ∧ BrSt w wr b0 b1 BE BS BG BY first window at_ i)
  case atStart => exact ⟨0, 0, by omega, rfl, rfl, by omega, ST.out⟩
  case round =>
    obtain ⟨i, at_, hi, rfl, rfl, hat, hst⟩ := hrel
    have HST := Lib.hid hst
    clear hst ST
    by_cases ti : i < n2
    · obtain ⟨qp, P, rfl, hP⟩ : ∃ q k, a2 = some q ∧ wr.cell? (q.add i) = some (.int .i64 k) := by
        obtain ⟨_, _, _, _, _, _, _, _, _, _, _, _, _, _, _, _, _, _, _, _, _, _, sp, _⟩ := HST.out.ex
        exact HP.out.upd sp.upd i ti
      go_upto_block 2 with (fail)
      obtain ⟨k, hk, hk1⟩ : ∃ k : Nat, bits BinOp.and IntKind.i64 (P / 8) 1 = k ∧ k ≤ 1 := by
        have h := i64_mask (P / 8) 1 (by omega)
        exact ⟨((P / 8) % 2).toNat, by rw [show (1 : Int) = ((2 ^ 1 - 1 : Nat) : Int) from rfl, h]; omega, by omega⟩
      obtain ⟨kd, hkd, hkd7⟩ : ∃ k : Nat, bits BinOp.and IntKind.i64 P 7 = k ∧ k ≤ 7 := by
        have h := i64_mask P 3 (by omega)
        exact ⟨(P % 8).toNat, by rw [show (7 : Int) = ((2 ^ 3 - 1 : Nat) : Int) from rfl, h]; omega, by omega⟩
      rw [hk, hkd]
      clear hk
      have HKD := Lib.hid hkd
      clear hkd hP
      go_cut [17, 21, 22, 23] from 79 to 246 (fun s17 s21 s22 s23 V => ∃ at' : Nat, s17 = .int .i64 at' ∧ at' ≤ n ∧ BrSt w V b0 b1 BE BS BG BY first window at' (i + 1))
      case first =>
        have hk2 : k = 0 ∨ k = 1 := by omega
        have hkd8 : kd = 0 ∨ kd = 1 ∨ kd = 2 ∨ kd = 3 ∨ kd = 4 ∨ kd = 5 ∨ kd = 6 ∨ kd = 7 := by omega
        clear hk1 hkd7
        rcases hk2 with rfl | rfl
        · rcases hkd8 with rfl | rfl | rfl | rfl | rfl | rfl | rfl | rfl
          · as_aux_lemma =>
            obtain ⟨c0, c1, s0, s1, g0, g1, y0, y1, vs0, vs1, vg0, vg1, vy0, vy1, o0, o1, os0, os1, og0, og1, oy0, oy1, sp, bo, hy⟩ := HST.out.ex
            have HU := Lib.hid sp.upd
            by_cases tat : at_ < n
            · obtain ⟨qs, M, rfl, hM⟩ := HS.out.upd HU.out at_ tat
              have hcv := str3 (P := Try.prog) (dst := 9) Try.underlying43 Try.underlying5 Try.underlying9 (Blk.new wr 5 #[.int .u8 109, .int .u8 at_, .int .u8 (M % 256)])
              obtain ⟨m, hm⟩ : ∃ m, m = strOfNums [109, (at_ : Int), M % 256] := ⟨_, rfl⟩
              have HM3 : Hid (m.size = 3) := by rw [hm, strOfNums_size]; rfl
              rw [← hm] at hcv
              clear hm
              have SP := Lib.hid (sp.keep ((Upd.refl [] wr).alloc (.cells #[.int .u8 109, .int .u8 at_, .int .u8 (M % 256)] 5)))
              have BO := Lib.hid bo
              have cE := (sp.get 2 rfl : Blk _ _ _ _).cell 0
              simp only [List.size_toArray, List.length_cons, List.length_nil, List.getElem?_toArray, List.getElem?_cons_zero, List.getElem?_cons_succ] at cE
              have lE := (sp.get 2 rfl : Blk _ _ _ _).lt
              have hsl := BO.out.few
              have h60 := BO.out.n60
              clear sp bo
              go_wp2_with fail
              refine (send_at (SP.out.get 0 rfl) m).mono ?_
              rintro e w3 ⟨rfl, ⟨oa2, h3, g3⟩, u3⟩
              have SP2 := Lib.hid (SP.out.set 0 rfl u3 (fun x hx => .inl hx) (t' := ctlT _ _ oa2) h3 g3)
              clear h3 g3 u3 cE lE hM hcv
              by_cases t0 : (c0.send m).2 = 0
              · have BO2 := Lib.hid (BO.out.send (by omega) HM3.out t0)
                rw [t0]
                clear t0
                obtain ⟨aS, cS, rfl, -, hcS⟩ := (SP2.out.get 6 rfl : Own _ _ _ _ _ _ _).shape
                simp only [maxLen] at hcS
                have cB := (SP2.out.get 3 rfl : Blk _ _ _ _).cell 0
                simp only [List.size_toArray, List.length_cons, List.length_nil, List.getElem?_toArray, List.getElem?_cons_zero, List.getElem?_cons_succ] at cB
                have lB := (SP2.out.get 3 rfl : Blk _ _ _ _).lt
                have SP3 := Lib.hid (SP2.out.keep ((Upd.refl [] w3).alloc (.cells #[.string m] 9)))
                have HO := Lib.hid (SP3.out.get 6 rfl : Own _ _ _ _ _ _ _)
                have HR := Lib.hid (Own.texts (l := [m]) (Own.one_new w3 9 (.string m)))
                go_wp2_with (first
                  | (at_builtin; refine wpList_append_Rd _ rfl (.tmp 180) (.tmp 182) 27 rfl 9 i0 _ 1 16 Try.underlying27 hi0 hz0 hz1 hz2 rfl (by decide) _ s0.length _ _ (by simp [Act.eval]) HO.out _ 1 _ (by simp [Act.eval]) HR.out (by simp only [maxLen]; omega) (by omega) ?_; intro ao1 cap1 w5 own1 ho1 hin1 hu5; have SP4 := Lib.hid (SP3.out.set 6 rfl hu5 (fun x hx => .inl hx) (t' := ownT 9 1 _ (s0 ++ [m]).length (strs (s0 ++ [m])) own1) (by simpa [strs, ownT] using ho1) hin1); clear ho1 hin1 hu5; have fB := (SP4.out.get 3 rfl : Blk _ _ _ _).frozen 0; have cB2 := (SP4.out.get 3 rfl : Blk _ _ _ _).cell 0; have lB2 := (SP4.out.get 3 rfl : Blk _ _ _ _).lt; simp only [List.size_toArray, List.length_cons, List.length_nil, List.getElem?_toArray, List.getElem?_cons_zero, List.getElem?_cons_succ] at cB2))
                go_meet
                case rel =>
                  obtain ⟨v5, hv5⟩ : ∃ v, v = Value.slice ao1 (s0.length + 1) cap1 := ⟨_, rfl⟩
                  rw [← hv5] at SP4
                  rw [← hv5]
                  have hb := (SP4.out.get 3 rfl : Blk _ _ _ _).set_ 0 v5
                  have SP5 := SP4.out.set 3 rfl (t' := blkT BS 38 #[v5, vs1]) (F := [BS]) ((Upd.refl _ _).setCell v5 (.inl (by simp))) (fun x hx => .inl hx) hb (fun x hx => .inl hx)
                  exact ⟨at_ + 1, by go_num, by omega, ⟨⟨(c0.send m).1, c1, s0 ++ [m], s1, g0, g1, y0, y1, v5, vs1, vg0, vg1, vy0, vy1, oa2, o1, own1, os1, og0, og1, oy0, oy1, SP5, BO2.out, by omega⟩⟩⟩
              · have BO2 := Lib.hid (BO.out.unsent (by omega) t0)
                go_wp2_with fail
                go_meet
                case rel => exact ⟨at_ + 1, by go_num, by omega, ⟨⟨(c0.send m).1, c1, s0, s1, g0, g1, y0, y1, vs0, vs1, vg0, vg1, vy0, vy1, oa2, o1, os0, os1, og0, og1, oy0, oy1, SP2.out, BO2.out, by omega⟩⟩⟩
            · have SP := Lib.hid sp
              have BO := Lib.hid bo
              clear sp bo
              go_wp2_with fail
              go_meet
              case rel => exact ⟨at_, rfl, by omega, ⟨⟨c0, c1, s0, s1, g0, g1, y0, y1, vs0, vs1, vg0, vg1, vy0, vy1, o0, o1, os0, os1, og0, og1, oy0, oy1, SP.out, BO.out, by omega⟩⟩⟩
          · as_aux_lemma =>
            obtain ⟨c0, c1, s0, s1, g0, g1, y0, y1, vs0, vs1, vg0, vg1, vy0, vy1, o0, o1, os0, os1, og0, og1, oy0, oy1, sp, bo, hy⟩ := HST.out.ex
            have HU := Lib.hid sp.upd
            by_cases tat : at_ < n
            · obtain ⟨qs, M, rfl, hM⟩ := HS.out.upd HU.out at_ tat
              have hcv := str3 (P := Try.prog) (dst := 9) Try.underlying43 Try.underlying5 Try.underlying9 (Blk.new wr 5 #[.int .u8 109, .int .u8 at_, .int .u8 (M % 256)])
              obtain ⟨m, hm⟩ : ∃ m, m = strOfNums [109, (at_ : Int), M % 256] := ⟨_, rfl⟩
              have HM3 : Hid (m.size = 3) := by rw [hm, strOfNums_size]; rfl
              rw [← hm] at hcv
              clear hm
              have SP := Lib.hid (sp.keep ((Upd.refl [] wr).alloc (.cells #[.int .u8 109, .int .u8 at_, .int .u8 (M % 256)] 5)))
              have BO := Lib.hid bo
              have cE := (sp.get 2 rfl : Blk _ _ _ _).cell 0
              simp only [List.size_toArray, List.length_cons, List.length_nil, List.getElem?_toArray, List.getElem?_cons_zero, List.getElem?_cons_succ] at cE
              have lE := (sp.get 2 rfl : Blk _ _ _ _).lt
              have hsl := BO.out.few
              have h60 := BO.out.n60
              clear sp bo
              go_wp2_with fail
              refine (send_at (SP.out.get 0 rfl) m).mono ?_
              rintro e w3 ⟨rfl, ⟨oa2, h3, g3⟩, u3⟩
              have SP2 := Lib.hid (SP.out.set 0 rfl u3 (fun x hx => .inl hx) (t' := ctlT _ _ oa2) h3 g3)
              clear h3 g3 u3 cE lE hM hcv
              by_cases t0 : (c0.send m).2 = 0
              · have BO2 := Lib.hid (BO.out.send (by omega) HM3.out t0)
                rw [t0]
                clear t0
                obtain ⟨aS, cS, rfl, -, hcS⟩ := (SP2.out.get 6 rfl : Own _ _ _ _ _ _ _).shape
                simp only [maxLen] at hcS
                have cB := (SP2.out.get 3 rfl : Blk _ _ _ _).cell 0
                simp only [List.size_toArray, List.length_cons, List.length_nil, List.getElem?_toArray, List.getElem?_cons_zero, List.getElem?_cons_succ] at cB
                have lB := (SP2.out.get 3 rfl : Blk _ _ _ _).lt
                have SP3 := Lib.hid (SP2.out.keep ((Upd.refl [] w3).alloc (.cells #[.string m] 9)))
                have HO := Lib.hid (SP3.out.get 6 rfl : Own _ _ _ _ _ _ _)
                have HR := Lib.hid (Own.texts (l := [m]) (Own.one_new w3 9 (.string m)))
                go_wp2_with (first
                  | (at_builtin; refine wpList_append_Rd _ rfl (.tmp 180) (.tmp 182) 27 rfl 9 i0 _ 1 16 Try.underlying27 hi0 hz0 hz1 hz2 rfl (by decide) _ s0.length _ _ (by simp [Act.eval]) HO.out _ 1 _ (by simp [Act.eval]) HR.out (by simp only [maxLen]; omega) (by omega) ?_; intro ao1 cap1 w5 own1 ho1 hin1 hu5; have SP4 := Lib.hid (SP3.out.set 6 rfl hu5 (fun x hx => .inl hx) (t' := ownT 9 1 _ (s0 ++ [m]).length (strs (s0 ++ [m])) own1) (by simpa [strs, ownT] using ho1) hin1); clear ho1 hin1 hu5; have fB := (SP4.out.get 3 rfl : Blk _ _ _ _).frozen 0; have cB2 := (SP4.out.get 3 rfl : Blk _ _ _ _).cell 0; have lB2 := (SP4.out.get 3 rfl : Blk _ _ _ _).lt; simp only [List.size_toArray, List.length_cons, List.length_nil, List.getElem?_toArray, List.getElem?_cons_zero, List.getElem?_cons_succ] at cB2))
                go_meet
                case rel =>
                  obtain ⟨v5, hv5⟩ : ∃ v, v = Value.slice ao1 (s0.length + 1) cap1 := ⟨_, rfl⟩
                  rw [← hv5] at SP4
                  rw [← hv5]
                  have hb := (SP4.out.get 3 rfl : Blk _ _ _ _).set_ 0 v5
                  have SP5 := SP4.out.set 3 rfl (t' := blkT BS 38 #[v5, vs1]) (F := [BS]) ((Upd.refl _ _).setCell v5 (.inl (by simp))) (fun x hx => .inl hx) hb (fun x hx => .inl hx)
                  exact ⟨at_ + 1, by go_num, by omega, ⟨⟨(c0.send m).1, c1, s0 ++ [m], s1, g0, g1, y0, y1, v5, vs1, vg0, vg1, vy0, vy1, oa2, o1, own1, os1, og0, og1, oy0, oy1, SP5, BO2.out, by omega⟩⟩⟩
              · have BO2 := Lib.hid (BO.out.unsent (by omega) t0)
                go_wp2_with fail
                go_meet
                case rel => exact ⟨at_ + 1, by go_num, by omega, ⟨⟨(c0.send m).1, c1, s0, s1, g0, g1, y0, y1, vs0, vs1, vg0, vg1, vy0, vy1, oa2, o1, os0, os1, og0, og1, oy0, oy1, SP2.out, BO2.out, by omega⟩⟩⟩
            · have SP := Lib.hid sp
              have BO := Lib.hid bo
              clear sp bo
              go_wp2_with fail
              go_meet
              case rel => exact ⟨at_, rfl, by omega, ⟨⟨c0, c1, s0, s1, g0, g1, y0, y1, vs0, vs1, vg0, vg1, vy0, vy1, o0, o1, os0, os1, og0, og1, oy0, oy1, SP.out, BO.out, by omega⟩⟩⟩
          · as_aux_lemma =>
            obtain ⟨c0, c1, s0, s1, g0, g1, y0, y1, vs0, vs1, vg0, vg1, vy0, vy1, o0, o1, os0, os1, og0, og1, oy0, oy1, sp, bo, hy⟩ := HST.out.ex
            have SP := Lib.hid sp
            have BO := Lib.hid bo
            have cE := (sp.get 2 rfl : Blk _ _ _ _).cell 0
            simp only [List.size_toArray, List.length_cons, List.length_nil, List.getElem?_toArray, List.getElem?_cons_zero, List.getElem?_cons_succ] at cE
            clear sp bo
            go_wp2_with fail
            refine (tick_at (SP.out.get 0 rfl)).mono ?_
            rintro e w3 ⟨rfl, h3, u3⟩
            have SP2 := Lib.hid (SP.out.set 0 rfl u3 (fun x hx => .inl hx) (t' := ctlT _ _ o0) h3 (fun x hx => .inl hx))
            clear h3 u3 cE
            go_wp2_with fail
            go_meet
            case rel => exact ⟨at_, rfl, by omega, ⟨⟨c0.tick, c1, s0, s1, g0, g1, y0, y1, vs0, vs1, vg0, vg1, vy0, vy1, o0, o1, os0, os1, og0, og1, oy0, oy1, SP2.out, BO.out.tick, by omega⟩⟩⟩
          · as_aux_lemma =>
            obtain ⟨c0, c1, s0, s1, g0, g1, y0, y1, vs0, vs1, vg0, vg1, vy0, vy1, o0, o1, os0, os1, og0, og1, oy0, oy1, sp, bo, hy⟩ := HST.out.ex
            obtain ⟨aY, cY, hvY, -, hcY⟩ := (sp.get 10 rfl : Own _ _ _ _ _ _ _).shape
            subst hvY
            simp only [maxLen] at hcY
            obtain ⟨nY, hnY⟩ : ∃ n, n = y0.length := ⟨_, rfl⟩
            have HNY := Lib.hid hnY
            have SP := Lib.hid sp
            have BO := Lib.hid bo
            have hxl : c0.out.2.length ≤ 42 := C.out_len2 (sp.get 0 rfl : CtlAt _ _ _ _).ok
            clear sp bo hnY
            go_upto_region 35 with (fail)
            refine wp_region_chain [some (.int .i64 0), some (.int .i64 0), some (.pointer (some ⟨BY, 0, none⟩)), some (.pointer (some ⟨BY, 0, none⟩)), some (.slice aY y0.length cY), some (.int .i64 0), some (.pointer (some ⟨BE, 0, none⟩)), some (.pointer (some ⟨b0, 0, none⟩)), none, none, some (.pointer (some ⟨BY, 0, none⟩)), some (.pointer (some ⟨BY, 0, none⟩)), none] [8,9,12] (outA w (brL b0 b1 BE BS BG BY c0 c1 s0 s1 g0 g1 y0 y1 vs0 vs1 vg0 vg1 (.slice aY y0.length cY) vy1 o0 o1 os0 os1 og0 og1 oy0 oy1) 0 b0 BY c0 y0 (fun u => #[u, vy1])) [(0, 2), (0, 1), (0, 1), (0, 1), (0, 1), (0, 0), (0, 0), (0, 0), (0, 0), (1, 1), (2, 2), (2, 2), (2, 2)] (by kernel_rfl) (by kernel_rfl) (by kernel_rfl) (by kernel_rfl) (by kernel_rfl) (by kernel_rfl) (SP.out.keep (Upd.refl _ _).drew) ?_ ?_
            · refine StepsC.cons ?_ (StepsC.cons ?_ (StepsC.cons ?_ (StepsC.cons ?_ (StepsC.cons ?_ (StepsC.cons ?_ (StepsC.cons ?_ (StepsC.cons ?_ (StepsC.cons ?_ (StepsC.cons ?_ (StepsC.cons ?_ (StepsC.cons ?_ (StepsC.cons ?_ StepsC.nil))))))))))))
              · refine chain_is _ rfl ⟨_, rfl⟩ (by kernel_rfl) rfl ?_
                intro a W k l0 h0 A0 hF hD
                have e20 : a.tmps[20]?.getD undef = _ := (ev a 20).symm.trans (hF 20 (by kernel_rfl))
                clear hF hD
                go_simp
              · refine chain_is _ rfl ⟨_, rfl⟩ (by kernel_rfl) rfl ?_
                intro a W k l0 h0 A0 hF hD
                have e20 : a.tmps[20]?.getD undef = _ := (ev a 20).symm.trans (hF 20 (by kernel_rfl))
                clear hF hD
                go_simp
              · refine chain_is _ rfl ⟨_, rfl⟩ (by kernel_rfl) rfl ?_
                intro a W k l0 h0 A0 hF hD
                have e197 : a.tmps[197]?.getD undef = .int .i64 0 := (ev a 197).symm.trans (hD _ (Array.mem_of_getElem? (i := 0) rfl) rfl)
                have e16 : a.tmps[16]?.getD undef = _ := (ev a 16).symm.trans (hF 16 (by kernel_rfl))
                clear hF hD
                go_simp
              · refine chain_is _ rfl ⟨_, rfl⟩ (by kernel_rfl) rfl ?_
                intro a W k l0 h0 A0 hF hD
                have e198 : a.tmps[198]?.getD undef = .pointer (some ⟨BY, 0, none⟩) := (ev a 198).symm.trans (hD _ (Array.mem_of_getElem? (i := 0) rfl) rfl)
                clear hF hD
                go_simp
              · refine chain_is _ rfl ⟨_, rfl⟩ (by kernel_rfl) rfl ?_
                intro a W k l0 h0 A0 hF hD
                have e199 : a.tmps[199]?.getD undef = .pointer (some ⟨BY, 0, none⟩) := (ev a 199).symm.trans (hD _ (Array.mem_of_getElem? (i := 0) rfl) rfl)
                clear hF hD
                have cB := (outA_BY (rfl : _ = some (blkT BY 41 #[.slice aY y0.length cY, vy1])) (by decide) (by simp only [List.length_map, List.length_take]; omega) A0).cell 0
                simp only [List.size_toArray, List.length_cons, List.length_nil, List.getElem?_toArray, List.getElem?_cons_zero, List.getElem?_cons_succ] at cB
                go_simp
              · refine chain_is _ rfl ⟨_, rfl⟩ (by kernel_rfl) rfl ?_
                intro a W k l0 h0 A0 hF hD
                have k0 : k = 0 := Nat.le_antisymm h0 l0
                subst k0
                clear l0 h0
                have e20 : a.tmps[20]?.getD undef = _ := (ev a 20).symm.trans (hF 20 (by kernel_rfl))
                clear hF hD
                go_simp
              · refine chain_is _ rfl ⟨_, rfl⟩ (by kernel_rfl) rfl ?_
                intro a W k l0 h0 A0 hF hD
                have k0 : k = 0 := Nat.le_antisymm h0 l0
                subst k0
                clear l0 h0
                have e201 : a.tmps[201]?.getD undef = .int .i64 0 := (ev a 201).symm.trans (hD _ (Array.mem_of_getElem? (i := 0) rfl) rfl)
                have e13 : a.tmps[13]?.getD undef = _ := (ev a 13).symm.trans (hF 13 (by kernel_rfl))
                clear hF hD
                go_simp
              · refine chain_is _ rfl ⟨_, rfl⟩ (by kernel_rfl) rfl ?_
                intro a W k l0 h0 A0 hF hD
                have k0 : k = 0 := Nat.le_antisymm h0 l0
                subst k0
                clear l0 h0
                have e202 : a.tmps[202]?.getD undef = .pointer (some ⟨BE, 0, none⟩) := (ev a 202).symm.trans (hD _ (Array.mem_of_getElem? (i := 0) rfl) rfl)
                clear hF hD
                have A1 : Sep _ _ _ := A0
                have cB := (A1.get 2 rfl : Blk _ _ _ _).cell 0
                simp only [List.size_toArray, List.length_cons, List.length_nil, List.getElem?_toArray, List.getElem?_cons_zero, List.getElem?_cons_succ] at cB
                go_simp
              · refine chain_call rfl ⟨_, rfl⟩ (by kernel_rfl) ?_
                intro a W k l0 h0 A0 hF hD
                have k0 : k = 0 := Nat.le_antisymm h0 l0
                subst k0
                clear l0 h0
                have e203 : a.tmps[203]?.getD undef = .pointer (some ⟨b0, 0, none⟩) := (ev a 203).symm.trans (hD _ (Array.mem_of_getElem? (i := 0) rfl) rfl)
                clear hF hD
                have A1 : Sep _ _ _ := A0
                refine ⟨_, _, by (go_simp; first | done | rfl | exact ⟨rfl, rfl⟩), ?_⟩
                refine (out_at (A1.get 0 rfl)).mono ?_
                rintro e w3 ⟨⟨v3, p3, rfl, q3, r3⟩, ⟨oa2, h3, g3⟩, u3⟩
                exact ⟨_, rfl, trivial, oa2, p3, A1.set_cons 0 rfl u3 (fun x hx => .inl hx) (t' := ctlT _ _ oa2) h3 g3 (s := ownT 30 3 v3 _ _ p3) q3 r3 (h3.ne_own q3 (by decide) (by decide))⟩
              · refine chain_run rfl ⟨_, rfl⟩ (by kernel_rfl) ?_
                intro a W k l0 h0 A0 hF hD
                have k0 : k = 1 := Nat.le_antisymm h0 l0
                subst k0
                clear l0 h0
                have e200 : a.tmps[200]?.getD undef = .slice aY y0.length cY := (ev a 200).symm.trans (hD _ (Array.mem_of_getElem? (i := 0) rfl) rfl)
                clear hF hD
                obtain ⟨oa2, p3, A1⟩ := A0
                have HR := (A1.get 0 rfl : Own _ _ _ _ _ _ _).rd (items_oneCell _)
                have A2 := A1.drop
                have HO := (A2.get 10 rfl : Own _ _ _ _ _ _ _)
                obtain ⟨ao1, cap1, w5, own1, hrun, ho1, hin1, hu5⟩ := run_append_Rd (P := Try.prog) W 31 31 30 j0 _ 3 32 Try.underlying31 ji0 jz0 jz1 jz2 rfl (by decide) _ y0.length _ _ HO _ _ _ HR (by simp only [maxLen]; omega) (by omega)
                exact ⟨_, w5, exec_append rfl ((ev a 200).trans e200) rfl hrun, trivial, oa2, own1, A2.set 10 rfl hu5 (fun x hx => .inl hx) (t' := ownT 30 3 _ (y0 ++ c0.out.2).length (items (y0 ++ c0.out.2)) own1) (by simpa [items, ownT] using ho1) hin1⟩
              · refine chain_is _ rfl ⟨_, rfl⟩ (by kernel_rfl) rfl ?_
                intro a W k l0 h0 A0 hF hD
                have k0 : k = 2 := Nat.le_antisymm h0 l0
                subst k0
                clear l0 h0
                have e196 : a.tmps[196]?.getD undef = .int .i64 0 := (ev a 196).symm.trans (hD _ (Array.mem_of_getElem? (i := 0) rfl) rfl)
                have e16 : a.tmps[16]?.getD undef = _ := (ev a 16).symm.trans (hF 16 (by kernel_rfl))
                clear hF hD
                go_simp
              · refine chain_is _ rfl ⟨_, rfl⟩ (by kernel_rfl) rfl ?_
                intro a W k l0 h0 A0 hF hD
                have k0 : k = 2 := Nat.le_antisymm h0 l0
                subst k0
                clear l0 h0
                have e206 : a.tmps[206]?.getD undef = .pointer (some ⟨BY, 0, none⟩) := (ev a 206).symm.trans (hD _ (Array.mem_of_getElem? (i := 0) rfl) rfl)
                clear hF hD
                go_simp
              · refine chain_set rfl rfl (by kernel_rfl) trivial ?_
                intro a W k l0 h0 A0 hF hD
                have k0 : k = 2 := Nat.le_antisymm h0 l0
                subst k0
                clear l0 h0
                have e207 : a.tmps[207]?.getD undef = .pointer (some ⟨BY, 0, none⟩) := (ev a 207).symm.trans (hD _ (Array.mem_of_getElem? (i := 0) rfl) rfl)
                clear hF hD
                obtain ⟨oa2, own1, A1⟩ := A0
                obtain ⟨ao1, cap1, hv, -, -⟩ := (A1.get 10 rfl : Own _ _ _ _ _ _ _).shape
                rw [List.length_append] at hv
                have e205 : a.tmps[205]?.getD undef = _ := (ev a 205).symm.trans hv
                have cB := (A1.get 5 rfl : Blk _ _ _ _).cell 0
                have fB := (A1.get 5 rfl : Blk _ _ _ _).frozen 0
                simp only [List.size_toArray, List.length_cons, List.length_nil, List.getElem?_toArray, List.getElem?_cons_zero, List.getElem?_cons_succ] at cB
                have hb := (A1.get 5 rfl : Blk _ _ _ _).set_ 0 (Value.slice ao1 (y0.length + c0.out.2.length) cap1)
                refine ⟨_, by (go_simp; first | done | rfl | exact ⟨rfl, rfl⟩), oa2, own1, A1.set 5 rfl ((Upd.refl [BY] _).setCell _ (.inl (by simp))) (fun x hx => .inl hx) (t' := blkT BY 41 _) ?_ (fun x hx => .inl hx)⟩
                rw [show leftAt _ a 9 = Value.slice ao1 (y0.length + c0.out.2.length) cap1 from hv]
                exact hb
            intro vals W hv hA
            have v0 : vals 0 = .int .i64 0 := hv 0 (by decide)
            have v1 : vals 1 = .int .i64 0 := hv 1 (by decide)
            have v2 : vals 2 = .pointer (some ⟨BY, 0, none⟩) := hv 2 (by decide)
            have v3 : vals 3 = .pointer (some ⟨BY, 0, none⟩) := hv 3 (by decide)
            have v4 : vals 4 = .slice aY y0.length cY := hv 4 (by decide)
            have v5 : vals 5 = .int .i64 0 := hv 5 (by decide)
            have v6 : vals 6 = .pointer (some ⟨BE, 0, none⟩) := hv 6 (by decide)
            have v7 : vals 7 = .pointer (some ⟨b0, 0, none⟩) := hv 7 (by decide)
            have v10 : vals 10 = .pointer (some ⟨BY, 0, none⟩) := hv 10 (by decide)
            have v11 : vals 11 = .pointer (some ⟨BY, 0, none⟩) := hv 11 (by decide)
            clear hv
            obtain ⟨oa2, own1, A1⟩ := hA
            have SP2 := Lib.hid A1
            clear A1
            generalize vals 9 = v9 at *
            simp only [putAll, Act.put, Nat.zero_add, Nat.reduceAdd, v0, v1, v2, v3, v4, v5, v6, v7, v10, v11, List.setIfInBounds_toArray, List.set_cons_zero, List.set_cons_succ]
            clear v0 v1 v2 v3 v4 v5 v6 v7 v10 v11
            go_wp2_with fail
            go_meet
            case rel =>
              exact ⟨at_, rfl, by omega, ⟨⟨c0.out.1, c1, s0, s1, g0, g1, y0 ++ c0.out.2, y1, vs0, vs1, vg0, vg1, v9, vy1, oa2, o1, os0, os1, og0, og1, own1, oy1, SP2.out, BO.out.out, by rw [List.length_append]; have := HNY.out; omega⟩⟩⟩
          · as_aux_lemma =>
            obtain ⟨c0, c1, s0, s1, g0, g1, y0, y1, vs0, vs1, vg0, vg1, vy0, vy1, o0, o1, os0, os1, og0, og1, oy0, oy1, sp, bo, hy⟩ := HST.out.ex
            obtain ⟨aY, cY, hvY, -, hcY⟩ := (sp.get 10 rfl : Own _ _ _ _ _ _ _).shape
            subst hvY
            simp only [maxLen] at hcY
            obtain ⟨nY, hnY⟩ : ∃ n, n = y0.length := ⟨_, rfl⟩
            have HNY := Lib.hid hnY
            have SP := Lib.hid sp
            have BO := Lib.hid bo
            have hxl : c0.out.2.length ≤ 42 := C.out_len2 (sp.get 0 rfl : CtlAt _ _ _ _).ok
            clear sp bo hnY
            go_upto_region 35 with (fail)
            refine wp_region_chain [some (.int .i64 0), some (.int .i64 0), some (.pointer (some ⟨BY, 0, none⟩)), some (.pointer (some ⟨BY, 0, none⟩)), some (.slice aY y0.length cY), some (.int .i64 0), some (.pointer (some ⟨BE, 0, none⟩)), some (.pointer (some ⟨b0, 0, none⟩)), none, none, some (.pointer (some ⟨BY, 0, none⟩)), some (.pointer (some ⟨BY, 0, none⟩)), none] [8,9,12] (outA w (brL b0 b1 BE BS BG BY c0 c1 s0 s1 g0 g1 y0 y1 vs0 vs1 vg0 vg1 (.slice aY y0.length cY) vy1 o0 o1 os0 os1 og0 og1 oy0 oy1) 0 b0 BY c0 y0 (fun u => #[u, vy1])) [(0, 2), (0, 1), (0, 1), (0, 1), (0, 1), (0, 0), (0, 0), (0, 0), (0, 0), (1, 1), (2, 2), (2, 2), (2, 2)] (by kernel_rfl) (by kernel_rfl) (by kernel_rfl) (by kernel_rfl) (by kernel_rfl) (by kernel_rfl) (SP.out.keep (Upd.refl _ _).drew) ?_ ?_
            · refine StepsC.cons ?_ (StepsC.cons ?_ (StepsC.cons ?_ (StepsC.cons ?_ (StepsC.cons ?_ (StepsC.cons ?_ (StepsC.cons ?_ (StepsC.cons ?_ (StepsC.cons ?_ (StepsC.cons ?_ (StepsC.cons ?_ (StepsC.cons ?_ (StepsC.cons ?_ StepsC.nil))))))))))))
              · refine chain_is _ rfl ⟨_, rfl⟩ (by kernel_rfl) rfl ?_
                intro a W k l0 h0 A0 hF hD
                have e20 : a.tmps[20]?.getD undef = _ := (ev a 20).symm.trans (hF 20 (by kernel_rfl))
                clear hF hD
                go_simp
              · refine chain_is _ rfl ⟨_, rfl⟩ (by kernel_rfl) rfl ?_
                intro a W k l0 h0 A0 hF hD
                have e20 : a.tmps[20]?.getD undef = _ := (ev a 20).symm.trans (hF 20 (by kernel_rfl))
                clear hF hD
                go_simp
              · refine chain_is _ rfl ⟨_, rfl⟩ (by kernel_rfl) rfl ?_
                intro a W k l0 h0 A0 hF hD
                have e197 : a.tmps[197]?.getD undef = .int .i64 0 := (ev a 197).symm.trans (hD _ (Array.mem_of_getElem? (i := 0) rfl) rfl)
                have e16 : a.tmps[16]?.getD undef = _ := (ev a 16).symm.trans (hF 16 (by kernel_rfl))
                clear hF hD
                go_simp
              · refine chain_is _ rfl ⟨_, rfl⟩ (by kernel_rfl) rfl ?_
                intro a W k l0 h0 A0 hF hD
                have e198 : a.tmps[198]?.getD undef = .pointer (some ⟨BY, 0, none⟩) := (ev a 198).symm.trans (hD _ (Array.mem_of_getElem? (i := 0) rfl) rfl)
                clear hF hD
                go_simp
              · refine chain_is _ rfl ⟨_, rfl⟩ (by kernel_rfl) rfl ?_
                intro a W k l0 h0 A0 hF hD
                have e199 : a.tmps[199]?.getD undef = .pointer (some ⟨BY, 0, none⟩) := (ev a 199).symm.trans (hD _ (Array.mem_of_getElem? (i := 0) rfl) rfl)
                clear hF hD
                have cB := (outA_BY (rfl : _ = some (blkT BY 41 #[.slice aY y0.length cY, vy1])) (by decide) (by simp only [List.length_map, List.length_take]; omega) A0).cell 0
                simp only [List.size_toArray, List.length_cons, List.length_nil, List.getElem?_toArray, List.getElem?_cons_zero, List.getElem?_cons_succ] at cB
                go_simp
              · refine chain_is _ rfl ⟨_, rfl⟩ (by kernel_rfl) rfl ?_
                intro a W k l0 h0 A0 hF hD
                have k0 : k = 0 := Nat.le_antisymm h0 l0
                subst k0
                clear l0 h0
                have e20 : a.tmps[20]?.getD undef = _ := (ev a 20).symm.trans (hF 20 (by kernel_rfl))
                clear hF hD
                go_simp
              · refine chain_is _ rfl ⟨_, rfl⟩ (by kernel_rfl) rfl ?_
                intro a W k l0 h0 A0 hF hD
                have k0 : k = 0 := Nat.le_antisymm h0 l0
                subst k0
                clear l0 h0
                have e201 : a.tmps[201]?.getD undef = .int .i64 0 := (ev a 201).symm.trans (hD _ (Array.mem_of_getElem? (i := 0) rfl) rfl)
                have e13 : a.tmps[13]?.getD undef = _ := (ev a 13).symm.trans (hF 13 (by kernel_rfl))
                clear hF hD
                go_simp
              · refine chain_is _ rfl ⟨_, rfl⟩ (by kernel_rfl) rfl ?_
                intro a W k l0 h0 A0 hF hD
                have k0 : k = 0 := Nat.le_antisymm h0 l0
                subst k0
                clear l0 h0
                have e202 : a.tmps[202]?.getD undef = .pointer (some ⟨BE, 0, none⟩) := (ev a 202).symm.trans (hD _ (Array.mem_of_getElem? (i := 0) rfl) rfl)
                clear hF hD
                have A1 : Sep _ _ _ := A0
                have cB := (A1.get 2 rfl : Blk _ _ _ _).cell 0
                simp only [List.size_toArray, List.length_cons, List.length_nil, List.getElem?_toArray, List.getElem?_cons_zero, List.getElem?_cons_succ] at cB
                go_simp
              · refine chain_call rfl ⟨_, rfl⟩ (by kernel_rfl) ?_
                intro a W k l0 h0 A0 hF hD
                have k0 : k = 0 := Nat.le_antisymm h0 l0
                subst k0
                clear l0 h0
                have e203 : a.tmps[203]?.getD undef = .pointer (some ⟨b0, 0, none⟩) := (ev a 203).symm.trans (hD _ (Array.mem_of_getElem? (i := 0) rfl) rfl)
                clear hF hD
                have A1 : Sep _ _ _ := A0
                refine ⟨_, _, by (go_simp; first | done | rfl | exact ⟨rfl, rfl⟩), ?_⟩
                refine (out_at (A1.get 0 rfl)).mono ?_
                rintro e w3 ⟨⟨v3, p3, rfl, q3, r3⟩, ⟨oa2, h3, g3⟩, u3⟩
                exact ⟨_, rfl, trivial, oa2, p3, A1.set_cons 0 rfl u3 (fun x hx => .inl hx) (t' := ctlT _ _ oa2) h3 g3 (s := ownT 30 3 v3 _ _ p3) q3 r3 (h3.ne_own q3 (by decide) (by decide))⟩
              · refine chain_run rfl ⟨_, rfl⟩ (by kernel_rfl) ?_
                intro a W k l0 h0 A0 hF hD
                have k0 : k = 1 := Nat.le_antisymm h0 l0
                subst k0
                clear l0 h0
                have e200 : a.tmps[200]?.getD undef = .slice aY y0.length cY := (ev a 200).symm.trans (hD _ (Array.mem_of_getElem? (i := 0) rfl) rfl)
                clear hF hD
                obtain ⟨oa2, p3, A1⟩ := A0
                have HR := (A1.get 0 rfl : Own _ _ _ _ _ _ _).rd (items_oneCell _)
                have A2 := A1.drop
                have HO := (A2.get 10 rfl : Own _ _ _ _ _ _ _)
                obtain ⟨ao1, cap1, w5, own1, hrun, ho1, hin1, hu5⟩ := run_append_Rd (P := Try.prog) W 31 31 30 j0 _ 3 32 Try.underlying31 ji0 jz0 jz1 jz2 rfl (by decide) _ y0.length _ _ HO _ _ _ HR (by simp only [maxLen]; omega) (by omega)
                exact ⟨_, w5, exec_append rfl ((ev a 200).trans e200) rfl hrun, trivial, oa2, own1, A2.set 10 rfl hu5 (fun x hx => .inl hx) (t' := ownT 30 3 _ (y0 ++ c0.out.2).length (items (y0 ++ c0.out.2)) own1) (by simpa [items, ownT] using ho1) hin1⟩
              · refine chain_is _ rfl ⟨_, rfl⟩ (by kernel_rfl) rfl ?_
                intro a W k l0 h0 A0 hF hD
                have k0 : k = 2 := Nat.le_antisymm h0 l0
                subst k0
                clear l0 h0
                have e196 : a.tmps[196]?.getD undef = .int .i64 0 := (ev a 196).symm.trans (hD _ (Array.mem_of_getElem? (i := 0) rfl) rfl)
                have e16 : a.tmps[16]?.getD undef = _ := (ev a 16).symm.trans (hF 16 (by kernel_rfl))
                clear hF hD
                go_simp
              · refine chain_is _ rfl ⟨_, rfl⟩ (by kernel_rfl) rfl ?_
                intro a W k l0 h0 A0 hF hD
                have k0 : k = 2 := Nat.le_antisymm h0 l0
                subst k0
                clear l0 h0
                have e206 : a.tmps[206]?.getD undef = .pointer (some ⟨BY, 0, none⟩) := (ev a 206).symm.trans (hD _ (Array.mem_of_getElem? (i := 0) rfl) rfl)
                clear hF hD
                go_simp
              · refine chain_set rfl rfl (by kernel_rfl) trivial ?_
                intro a W k l0 h0 A0 hF hD
                have k0 : k = 2 := Nat.le_antisymm h0 l0
                subst k0
                clear l0 h0
                have e207 : a.tmps[207]?.getD undef = .pointer (some ⟨BY, 0, none⟩) := (ev a 207).symm.trans (hD _ (Array.mem_of_getElem? (i := 0) rfl) rfl)
                clear hF hD
                obtain ⟨oa2, own1, A1⟩ := A0
                obtain ⟨ao1, cap1, hv, -, -⟩ := (A1.get 10 rfl : Own _ _ _ _ _ _ _).shape
                rw [List.length_append] at hv
                have e205 : a.tmps[205]?.getD undef = _ := (ev a 205).symm.trans hv
                have cB := (A1.get 5 rfl : Blk _ _ _ _).cell 0
                have fB := (A1.get 5 rfl : Blk _ _ _ _).frozen 0
                simp only [List.size_toArray, List.length_cons, List.length_nil, List.getElem?_toArray, List.getElem?_cons_zero, List.getElem?_cons_succ] at cB
                have hb := (A1.get 5 rfl : Blk _ _ _ _).set_ 0 (Value.slice ao1 (y0.length + c0.out.2.length) cap1)
                refine ⟨_, by (go_simp; first | done | rfl | exact ⟨rfl, rfl⟩), oa2, own1, A1.set 5 rfl ((Upd.refl [BY] _).setCell _ (.inl (by simp))) (fun x hx => .inl hx) (t' := blkT BY 41 _) ?_ (fun x hx => .inl hx)⟩
                rw [show leftAt _ a 9 = Value.slice ao1 (y0.length + c0.out.2.length) cap1 from hv]
                exact hb
            intro vals W hv hA
            have v0 : vals 0 = .int .i64 0 := hv 0 (by decide)
            have v1 : vals 1 = .int .i64 0 := hv 1 (by decide)
            have v2 : vals 2 = .pointer (some ⟨BY, 0, none⟩) := hv 2 (by decide)
            have v3 : vals 3 = .pointer (some ⟨BY, 0, none⟩) := hv 3 (by decide)
            have v4 : vals 4 = .slice aY y0.length cY := hv 4 (by decide)
            have v5 : vals 5 = .int .i64 0 := hv 5 (by decide)
            have v6 : vals 6 = .pointer (some ⟨BE, 0, none⟩) := hv 6 (by decide)
            have v7 : vals 7 = .pointer (some ⟨b0, 0, none⟩) := hv 7 (by decide)
            have v10 : vals 10 = .pointer (some ⟨BY, 0, none⟩) := hv 10 (by decide)
            have v11 : vals 11 = .pointer (some ⟨BY, 0, none⟩) := hv 11 (by decide)
            clear hv
            obtain ⟨oa2, own1, A1⟩ := hA
            have SP2 := Lib.hid A1
            clear A1
            generalize vals 9 = v9 at *
            simp only [putAll, Act.put, Nat.zero_add, Nat.reduceAdd, v0, v1, v2, v3, v4, v5, v6, v7, v10, v11, List.setIfInBounds_toArray, List.set_cons_zero, List.set_cons_succ]
            clear v0 v1 v2 v3 v4 v5 v6 v7 v10 v11
            go_wp2_with fail
            go_meet
            case rel =>
              exact ⟨at_, rfl, by omega, ⟨⟨c0.out.1, c1, s0, s1, g0, g1, y0 ++ c0.out.2, y1, vs0, vs1, vg0, vg1, v9, vy1, oa2, o1, os0, os1, og0, og1, own1, oy1, SP2.out, BO.out.out, by rw [List.length_append]; have := HNY.out; omega⟩⟩⟩
          · as_aux_lemma =>
            obtain ⟨c0, c1, s0, s1, g0, g1, y0, y1, vs0, vs1, vg0, vg1, vy0, vy1, o0, o1, os0, os1, og0, og1, oy0, oy1, sp, bo, hy⟩ := HST.out.ex
            obtain ⟨aY, cY, hvY, hcY1, hcY⟩ := (sp.get 10 rfl : Own _ _ _ _ _ _ _).shape
            subst hvY
            simp only [maxLen] at hcY
            obtain ⟨nY, hnY⟩ : ∃ n, n = y0.length := ⟨_, rfl⟩
            have cB := (sp.get 5 rfl : Blk _ _ _ _).cell 0
            simp only [List.size_toArray, List.length_cons, List.length_nil, List.getElem?_toArray, List.getElem?_cons_zero, List.getElem?_cons_succ] at cB
            rw [← hnY] at cB hcY1
            have HNY := Lib.hid hnY
            have SP := Lib.hid sp
            have BO := Lib.hid bo
            have HY := Lib.hid hy
            clear sp bo hnY hy
            by_cases hy0 : nY = 0
            · subst hy0
              go_wp2_with fail
              go_roundg (n2 - (i + 1))
              case rel => exact ⟨i + 1, at_, by omega, by go_num, rfl, by omega, ⟨⟨c0, c1, s0, s1, g0, g1, y0, y1, vs0, vs1, vg0, vg1, (.slice aY y0.length cY), vy1, o0, o1, os0, os1, og0, og1, oy0, oy1, SP.out, BO.out, by have := HY.out; omega⟩⟩⟩
              case measure => omega
            · go_upto_region 19 with (fail)
              have h10 := i64_mask (P / 16) 10 (by omega)
              obtain ⟨kk, hkk, hlt⟩ : ∃ kk : Nat, (bits BinOp.and IntKind.i64 (P / 16) 1023).tmod nY = kk ∧ kk < nY := by
                rw [show (1023 : Int) = ((2 ^ 10 - 1 : Nat) : Int) from rfl, h10, Int.tmod_eq_emod_of_nonneg (by omega)]
                have h1 := Int.emod_nonneg (P / 16 % ((2 ^ 10 : Nat) : Int)) (b := (nY : Int)) (by omega)
                have h2 := Int.emod_lt_of_pos (P / 16 % ((2 ^ 10 : Nat) : Int)) (b := (nY : Int)) (by omega)
                exact ⟨((P / 16 % ((2 ^ 10 : Nat) : Int)) % (nY : Int)).toNat, by omega, by omega⟩
              rw [hkk]
              clear hkk h10
              obtain ⟨x, hx⟩ : ∃ x, y0[kk]? = some x := ⟨_, List.getElem?_eq_getElem (by have := HNY.out; omega)⟩
              obtain ⟨qY, rfl, c0_, c1_, c2_⟩ := ((SP.out.get 10 rfl : Own _ _ _ _ _ _ _).rd (items_oneCell _)).item hx
              have HX : Hid (x ∈ y0) := List.mem_of_getElem? hx
              have hxs : x.body.size ≤ 3 := BO.out.small HX.out
              have SPX := Lib.hid (SP.out.cons (t := blkT wr.heap.size 30 #[.int .i64 x.ns, .int .i64 x.nr, .string x.body]) ((Upd.refl _ _).alloc _) (Blk.new _ _ _) (by simp [blkT]))
              have hkd := HKD.out
              have lY := (SP.out.get 5 rfl : Blk _ _ _ _).lt
              clear hx SP
              go_upto_region 21 with (fail)
              refine gen_world (fun V => Sep w V (blkT wr.heap.size 30 #[.int .i64 x.ns, .int .i64 x.nr, .string x.body] :: brL b0 b1 BE BS BG BY c0 c1 s0 s1 g0 g1 y0 y1 vs0 vs1 vg0 vg1 (.slice (some qY) y0.length cY) vy1 o0 o1 os0 os1 og0 og1 oy0 oy1)) SPX.out ?_
              intro W1 SP1
              clear SPX
              generalize wr.heap.size = BX at *
              have SP2 := Lib.hid SP1
              clear SP1
              clear c0_ c1_ c2_ lY
              have hkn : kk + 1 ≤ y0.length := by have := HNY.out; omega
              have hyl : y0.length ≤ 42 * 400 := by have := HY.out; omega
              have hw13 : IntKind.i64.wrap ((kk : Int) + 1) = (kk : Int) + 1 := IntWalk.i64_in _ (by omega)
              have hsl := run_prefix (P := Try.prog) 31 Try.underlying31 3 size_item (some qY) y0.length cY kk (by have := HNY.out; omega)
              obtain ⟨vT, hvT⟩ : ∃ v, v = sliced (some qY) (kk + 1) y0.length cY 3 := ⟨_, rfl⟩
              have hss := run_suffix (P := Try.prog) 31 Try.underlying31 3 size_item (some qY) y0.length cY (kk + 1) hkn vT hvT
              rw [show (((kk + 1 : Nat) : Int)) = (kk : Int) + 1 by omega] at hss
              have HVT := Lib.hid hvT
              clear hvT
              refine wp_region_chain [some (.int .i64 0), some (.int .i64 0), some (.pointer (some ⟨BY, 0, none⟩)), some (.pointer (some ⟨BY, 0, none⟩)), some (.slice (some qY) y0.length cY), some (.int .i64 kk), some (.slice (some qY) kk cY), none, some (.int .i64 0), some (.pointer (some ⟨BY, 0, none⟩)), some (.pointer (some ⟨BY, 0, none⟩)), some (.slice (some qY) y0.length cY), some (.int .i64 kk), some (.int .i64 ((kk : Int) + 1)), some (vT), none, some (.pointer (some ⟨BY, 0, none⟩)), some (.pointer (some ⟨BY, 0, none⟩)), none] [7,15,18] (cutA w (blkT BX 30 #[.int .i64 x.ns, .int .i64 x.nr, .string x.body] :: brL b0 b1 BE BS BG BY c0 c1 s0 s1 g0 g1 y0 y1 vs0 vs1 vg0 vg1 (.slice (some qY) y0.length cY) vy1 o0 o1 os0 os1 og0 og1 oy0 oy1) BY (y0.take kk) (y0.drop (kk + 1)) (fun u => #[u, vy1])) [(0, 2), (0, 0), (0, 0), (0, 0), (0, 0), (0, 0), (0, 0), (0, 0), (0, 1), (0, 1), (0, 1), (0, 1), (0, 1), (0, 1), (0, 1), (1, 1), (2, 2), (2, 2), (2, 2)] (by kernel_rfl) (by kernel_rfl) (by kernel_rfl) (by kernel_rfl) (by kernel_rfl) (by kernel_rfl) (SP2.out.keep (Upd.refl _ _).drew) ?_ ?_
              · refine StepsC.cons ?_ (StepsC.cons ?_ (StepsC.cons ?_ (StepsC.cons ?_ (StepsC.cons ?_ (StepsC.cons ?_ (StepsC.cons ?_ (StepsC.cons ?_ (StepsC.cons ?_ (StepsC.cons ?_ (StepsC.cons ?_ (StepsC.cons ?_ (StepsC.cons ?_ (StepsC.cons ?_ (StepsC.cons ?_ (StepsC.cons ?_ (StepsC.cons ?_ (StepsC.cons ?_ (StepsC.cons ?_ StepsC.nil))))))))))))))))))
                · refine chain_is _ rfl ⟨_, rfl⟩ (by kernel_rfl) rfl ?_
                  intro a W k l0 h0 A0 hF hD
                  have e20 : a.tmps[20]?.getD undef = _ := (ev a 20).symm.trans (hF 20 (by kernel_rfl))
                  clear hF hD
                  go_simp
                · refine chain_is _ rfl ⟨_, rfl⟩ (by kernel_rfl) rfl ?_
                  intro a W k l0 h0 A0 hF hD
                  have k0 : k = 0 := Nat.le_antisymm h0 l0
                  subst k0
                  clear l0 h0
                  have e20 : a.tmps[20]?.getD undef = _ := (ev a 20).symm.trans (hF 20 (by kernel_rfl))
                  clear hF hD
                  go_simp
                · refine chain_is _ rfl ⟨_, rfl⟩ (by kernel_rfl) rfl ?_
                  intro a W k l0 h0 A0 hF hD
                  have k0 : k = 0 := Nat.le_antisymm h0 l0
                  subst k0
                  clear l0 h0
                  have e120 : a.tmps[120]?.getD undef = .int .i64 0 := (ev a 120).symm.trans (hD _ (Array.mem_of_getElem? (i := 0) rfl) rfl)
                  have e16 : a.tmps[16]?.getD undef = _ := (ev a 16).symm.trans (hF 16 (by kernel_rfl))
                  clear hF hD
                  go_simp
                · refine chain_is _ rfl ⟨_, rfl⟩ (by kernel_rfl) rfl ?_
                  intro a W k l0 h0 A0 hF hD
                  have k0 : k = 0 := Nat.le_antisymm h0 l0
                  subst k0
                  clear l0 h0
                  have e121 : a.tmps[121]?.getD undef = .pointer (some ⟨BY, 0, none⟩) := (ev a 121).symm.trans (hD _ (Array.mem_of_getElem? (i := 0) rfl) rfl)
                  clear hF hD
                  go_simp
                · refine chain_is _ rfl ⟨_, rfl⟩ (by kernel_rfl) rfl ?_
                  intro a W k l0 h0 A0 hF hD
                  have k0 : k = 0 := Nat.le_antisymm h0 l0
                  subst k0
                  clear l0 h0
                  have e122 : a.tmps[122]?.getD undef = .pointer (some ⟨BY, 0, none⟩) := (ev a 122).symm.trans (hD _ (Array.mem_of_getElem? (i := 0) rfl) rfl)
                  clear hF hD
                  have A1 : Sep _ _ _ := A0
                  have cB := (A1.get 6 rfl : Blk _ _ _ _).cell 0
                  simp only [List.size_toArray, List.length_cons, List.length_nil, List.getElem?_toArray, List.getElem?_cons_zero, List.getElem?_cons_succ] at cB
                  go_simp
                · refine chain_is _ rfl ⟨_, rfl⟩ (by kernel_rfl) rfl ?_
                  intro a W k l0 h0 A0 hF hD
                  have k0 : k = 0 := Nat.le_antisymm h0 l0
                  subst k0
                  clear l0 h0
                  have e22 : a.tmps[22]?.getD undef = _ := (ev a 22).symm.trans (hF 22 (by kernel_rfl))
                  clear hF hD
                  go_simp
                · refine chain_is _ rfl ⟨_, rfl⟩ (by kernel_rfl) rfl ?_
                  intro a W k l0 h0 A0 hF hD
                  have k0 : k = 0 := Nat.le_antisymm h0 l0
                  subst k0
                  clear l0 h0
                  have e123 : a.tmps[123]?.getD undef = .slice (some qY) y0.length cY := (ev a 123).symm.trans (hD _ (Array.mem_of_getElem? (i := 0) rfl) rfl)
                  have e124 : a.tmps[124]?.getD undef = .int .i64 kk := (ev a 124).symm.trans (hD _ (Array.mem_of_getElem? (i := 1) rfl) rfl)
                  clear hF hD
                  go_simp
                · refine chain_run rfl ⟨_, rfl⟩ (by kernel_rfl) ?_
                  intro a W k l0 h0 A0 hF hD
                  have k0 : k = 0 := Nat.le_antisymm h0 l0
                  subst k0
                  clear l0 h0
                  have e125 : a.tmps[125]?.getD undef = .slice (some qY) kk cY := (ev a 125).symm.trans (hD _ (Array.mem_of_getElem? (i := 0) rfl) rfl)
                  clear hF hD
                  have A1 : Sep _ _ _ := A0
                  have HR0 := ((A1.get 11 rfl : Own _ _ _ _ _ _ _).rd (items_oneCell _)).cut (m := kk) (by omega)
                  rw [← items_take] at HR0
                  obtain ⟨ao1, cap1, w5, own1, hrun, ho1, hin1, hu5⟩ := run_append_Rd (P := Try.prog) W 31 31 30 j0 _ 3 32 Try.underlying31 ji0 jz0 jz1 jz2 rfl (by decide) _ 0 _ _ (Own.nil _ _ _) _ _ _ HR0 (by simp only [maxLen]; omega) (by omega)
                  exact ⟨_, w5, exec_append rfl rfl ((ev a 125).trans e125) hrun, trivial, own1, A1.cons (t := ownT 30 3 _ (y0.take kk).length (items (y0.take kk)) own1) hu5 (by have hl : 0 + kk = (y0.take kk).length := (by rw [List.length_take]; omega); rw [← hl]; simpa [ownT] using ho1) (fun k hk => (hin1 k hk).resolve_left (by simp))⟩
                · refine chain_is _ rfl ⟨_, rfl⟩ (by kernel_rfl) rfl ?_
                  intro a W k l0 h0 A0 hF hD
                  have e20 : a.tmps[20]?.getD undef = _ := (ev a 20).symm.trans (hF 20 (by kernel_rfl))
                  clear hF hD
                  go_simp
                · refine chain_is _ rfl ⟨_, rfl⟩ (by kernel_rfl) rfl ?_
                  intro a W k l0 h0 A0 hF hD
                  have e127 : a.tmps[127]?.getD undef = .int .i64 0 := (ev a 127).symm.trans (hD _ (Array.mem_of_getElem? (i := 0) rfl) rfl)
                  have e16 : a.tmps[16]?.getD undef = _ := (ev a 16).symm.trans (hF 16 (by kernel_rfl))
                  clear hF hD
                  go_simp
                · refine chain_is _ rfl ⟨_, rfl⟩ (by kernel_rfl) rfl ?_
                  intro a W k l0 h0 A0 hF hD
                  have e128 : a.tmps[128]?.getD undef = .pointer (some ⟨BY, 0, none⟩) := (ev a 128).symm.trans (hD _ (Array.mem_of_getElem? (i := 0) rfl) rfl)
                  clear hF hD
                  go_simp
                · refine chain_is _ rfl ⟨_, rfl⟩ (by kernel_rfl) rfl ?_
                  intro a W k l0 h0 A0 hF hD
                  have e129 : a.tmps[129]?.getD undef = .pointer (some ⟨BY, 0, none⟩) := (ev a 129).symm.trans (hD _ (Array.mem_of_getElem? (i := 0) rfl) rfl)
                  clear hF hD
                  have A1 := cutA_L (by simp only [List.length_map, List.length_take]; omega) A0
                  have cB := (A1.get 6 rfl : Blk _ _ _ _).cell 0
                  simp only [List.size_toArray, List.length_cons, List.length_nil, List.getElem?_toArray, List.getElem?_cons_zero, List.getElem?_cons_succ] at cB
                  go_simp
                · refine chain_is _ rfl ⟨_, rfl⟩ (by kernel_rfl) rfl ?_
                  intro a W k l0 h0 A0 hF hD
                  have e22 : a.tmps[22]?.getD undef = _ := (ev a 22).symm.trans (hF 22 (by kernel_rfl))
                  clear hF hD
                  go_simp
                · refine chain_is _ rfl ⟨_, rfl⟩ (by kernel_rfl) rfl ?_
                  intro a W k l0 h0 A0 hF hD
                  have e131 : a.tmps[131]?.getD undef = .int .i64 kk := (ev a 131).symm.trans (hD _ (Array.mem_of_getElem? (i := 0) rfl) rfl)
                  clear hF hD
                  go_simp
                · refine chain_is _ rfl ⟨_, rfl⟩ (by kernel_rfl) rfl ?_
                  intro a W k l0 h0 A0 hF hD
                  have e130 : a.tmps[130]?.getD undef = .slice (some qY) y0.length cY := (ev a 130).symm.trans (hD _ (Array.mem_of_getElem? (i := 0) rfl) rfl)
                  have e132 : a.tmps[132]?.getD undef = .int .i64 ((kk : Int) + 1) := (ev a 132).symm.trans (hD _ (Array.mem_of_getElem? (i := 1) rfl) rfl)
                  clear hF hD
                  go_simp
                · refine chain_run rfl ⟨_, rfl⟩ (by kernel_rfl) ?_
                  intro a W k l0 h0 A0 hF hD
                  have k0 : k = 1 := Nat.le_antisymm h0 l0
                  subst k0
                  clear l0 h0
                  have e133 : a.tmps[133]?.getD undef = vT := (ev a 133).symm.trans (hD _ (Array.mem_of_getElem? (i := 1) rfl) rfl)
                  clear hF hD
                  obtain ⟨p3, A1⟩ := A0
                  have HR0 := ((A1.get 12 rfl : Own _ _ _ _ _ _ _).rd (items_oneCell _)).tail (m := kk + 1) hkn
                  rw [← items_drop, ← HVT.out] at HR0
                  have HO := (A1.get 0 rfl : Own _ _ _ _ _ _ _)
                  have hlt2 : (y0.take kk).length ≤ 42 * 400 := by rw [List.length_take]; omega
                  obtain ⟨ao1, cap1, w5, own1, hrun, ho1, hin1, hu5⟩ := run_append_Rd (P := Try.prog) W 31 31 30 j0 _ 3 32 Try.underlying31 ji0 jz0 jz1 jz2 rfl (by decide) _ (y0.take kk).length _ _ HO _ _ _ HR0 (by simp only [maxLen]; omega) (by omega)
                  exact ⟨_, w5, exec_append rfl rfl ((ev a 133).trans e133) hrun, trivial, own1, A1.set 0 rfl hu5 (fun x hx => .inl hx) (t' := ownT 30 3 _ (y0.take kk ++ y0.drop (kk + 1)).length (items (y0.take kk ++ y0.drop (kk + 1))) own1) (by have hl : (y0.take kk).length + (y0.length - (kk + 1)) = (y0.take kk ++ y0.drop (kk + 1)).length := (by rw [List.length_append, List.length_drop]); rw [← hl]; have hc : items (y0.take kk ++ y0.drop (kk + 1)) = items (y0.take kk) ++ items (y0.drop (kk + 1)) := (by simp [items]); rw [hc]; exact ho1) hin1⟩
                · refine chain_is _ rfl ⟨_, rfl⟩ (by kernel_rfl) rfl ?_
                  intro a W k l0 h0 A0 hF hD
                  have k0 : k = 2 := Nat.le_antisymm h0 l0
                  subst k0
                  clear l0 h0
                  have e119 : a.tmps[119]?.getD undef = .int .i64 0 := (ev a 119).symm.trans (hD _ (Array.mem_of_getElem? (i := 0) rfl) rfl)
                  have e16 : a.tmps[16]?.getD undef = _ := (ev a 16).symm.trans (hF 16 (by kernel_rfl))
                  clear hF hD
                  go_simp
                · refine chain_is _ rfl ⟨_, rfl⟩ (by kernel_rfl) rfl ?_
                  intro a W k l0 h0 A0 hF hD
                  have k0 : k = 2 := Nat.le_antisymm h0 l0
                  subst k0
                  clear l0 h0
                  have e135 : a.tmps[135]?.getD undef = .pointer (some ⟨BY, 0, none⟩) := (ev a 135).symm.trans (hD _ (Array.mem_of_getElem? (i := 0) rfl) rfl)
                  clear hF hD
                  go_simp
                · refine chain_set rfl rfl (by kernel_rfl) trivial ?_
                  intro a W k l0 h0 A0 hF hD
                  have k0 : k = 2 := Nat.le_antisymm h0 l0
                  subst k0
                  clear l0 h0
                  have e136 : a.tmps[136]?.getD undef = .pointer (some ⟨BY, 0, none⟩) := (ev a 136).symm.trans (hD _ (Array.mem_of_getElem? (i := 0) rfl) rfl)
                  clear hF hD
                  obtain ⟨own1, A1⟩ := A0
                  obtain ⟨ao1, cap1, hv, -, -⟩ := (A1.get 0 rfl : Own _ _ _ _ _ _ _).shape
                  obtain ⟨nn, hnn⟩ : ∃ n, n = (y0.take kk ++ y0.drop (kk + 1)).length := ⟨_, rfl⟩
                  rw [← hnn] at hv
                  clear hnn
                  have e134 : a.tmps[134]?.getD undef = _ := (ev a 134).symm.trans hv
                  have cB := (A1.get 7 rfl : Blk _ _ _ _).cell 0
                  have fB := (A1.get 7 rfl : Blk _ _ _ _).frozen 0
                  simp only [List.size_toArray, List.length_cons, List.length_nil, List.getElem?_toArray, List.getElem?_cons_zero, List.getElem?_cons_succ] at cB
                  have hb := (A1.get 7 rfl : Blk _ _ _ _).set_ 0 (Value.slice ao1 nn cap1)
                  refine ⟨_, by (go_simp; first | done | rfl | exact ⟨rfl, rfl⟩), own1, A1.set 7 rfl ((Upd.refl [BY] _).setCell _ (.inl (by simp))) (fun x hx => .inl hx) (t' := blkT BY 41 _) ?_ (fun x hx => .inl hx)⟩
                  rw [show leftAt _ a 15 = Value.slice ao1 nn cap1 from hv]
                  exact hb
              intro vals W hv hA
              have v0 : vals 0 = .int .i64 0 := hv 0 (by decide)
              have v1 : vals 1 = .int .i64 0 := hv 1 (by decide)
              have v2 : vals 2 = .pointer (some ⟨BY, 0, none⟩) := hv 2 (by decide)
              have v3 : vals 3 = .pointer (some ⟨BY, 0, none⟩) := hv 3 (by decide)
              have v4 : vals 4 = .slice (some qY) y0.length cY := hv 4 (by decide)
              have v5 : vals 5 = .int .i64 kk := hv 5 (by decide)
              have v6 : vals 6 = .slice (some qY) kk cY := hv 6 (by decide)
              have v8 : vals 8 = .int .i64 0 := hv 8 (by decide)
              have v9 : vals 9 = .pointer (some ⟨BY, 0, none⟩) := hv 9 (by decide)
              have v10 : vals 10 = .pointer (some ⟨BY, 0, none⟩) := hv 10 (by decide)
              have v11 : vals 11 = .slice (some qY) y0.length cY := hv 11 (by decide)
              have v12 : vals 12 = .int .i64 kk := hv 12 (by decide)
              have v13 : vals 13 = .int .i64 ((kk : Int) + 1) := hv 13 (by decide)
              have v14 : vals 14 = vT := hv 14 (by decide)
              have v16 : vals 16 = .pointer (some ⟨BY, 0, none⟩) := hv 16 (by decide)
              have v17 : vals 17 = .pointer (some ⟨BY, 0, none⟩) := hv 17 (by decide)
              clear hv
              obtain ⟨ownY, A1⟩ := hA
              clear SP2
              have SP2 := Lib.hid (A1.move 11)
              clear A1 hsl hss
              generalize vals 15 = v15 at *
              simp only [putAll, Act.put, Nat.zero_add, Nat.reduceAdd, v0, v1, v2, v3, v4, v5, v6, v8, v9, v10, v11, v12, v13, v14, v16, v17, List.setIfInBounds_toArray, List.set_cons_zero, List.set_cons_succ]
              clear v0 v1 v2 v3 v4 v5 v6 v8 v9 v10 v11 v12 v13 v14 v16 v17
              go_upto_region 22 with (fail)
              by_cases tl : bits BinOp.and IntKind.i64 (P / 16384) 3 = 0
              · go_wp2_with fail
                go_meet
                case rel => exact ⟨at_, rfl, by omega, ⟨⟨c0, c1, s0, s1, g0, g1, (y0.take kk ++ y0.drop (kk + 1)), y1, vs0, vs1, vg0, vg1, v15, vy1, o0, o1, os0, os1, og0, og1, ownY, oy1, SP2.out.drop, BO.out.sub (cut_sub kk), by have := HY.out; have := HNY.out; simp only [List.length_append, List.length_take, List.length_drop]; omega⟩⟩⟩
              · have tl2 : ((bits BinOp.and IntKind.i64 (P / 16384) 3) != 0) = true := by simpa using tl
                go_upto_region 23 with (fail)
                obtain ⟨aG, cG, hvG, -, hcG⟩ := (SP2.out.get 10 rfl : Own _ _ _ _ _ _ _).shape
                subst hvG
                simp only [maxLen] at hcG
                have hgl : g1.length ≤ 60 := by have h1 := BO.out.good; have h2 := BO.out.few; have h3 := BO.out.n60; omega
                have hw1 : IntKind.i64.wrap 1 = 1 := by rfl
                clear tl tl2 hkd
                refine wp_region_chain [some (.int .i64 0), some (.int .i64 1), some (.int .i64 0), some (.int .i64 1), some (.pointer (some ⟨BG, 1, none⟩)), some (.slice aG g1.length cG), some (.int .i64 0), some (.int .i64 1), some (.pointer (some ⟨BE, 1, none⟩)), some (.pointer (some ⟨b1, 0, none⟩)), some (.agg #[.int .i64 x.ns, .int .i64 x.nr, .string x.body]), none, none, some (.pointer (some ⟨BG, 1, none⟩)), none] [11,12,14] (takeA w (blkT BX 30 #[.int .i64 x.ns, .int .i64 x.nr, .string x.body] :: brL b0 b1 BE BS BG BY c0 c1 s0 s1 g0 g1 (y0.take kk ++ y0.drop (kk + 1)) y1 vs0 vs1 vg0 (.slice aG g1.length cG) v15 vy1 o0 o1 os0 os1 og0 og1 ownY oy1) 1 b1 BG c1 x g1 o1 (fun u => #[vg0, u])) [(0, 2), (0, 2), (0, 1), (0, 1), (0, 1), (0, 1), (0, 0), (0, 0), (0, 0), (0, 0), (0, 0), (0, 0), (1, 1), (2, 2), (2, 2)] (by kernel_rfl) (by kernel_rfl) (by kernel_rfl) (by kernel_rfl) (by kernel_rfl) (by kernel_rfl) (SP2.out.keep (Upd.refl _ _).drew) ?_ ?_
                · refine StepsC.cons ?_ (StepsC.cons ?_ (StepsC.cons ?_ (StepsC.cons ?_ (StepsC.cons ?_ (StepsC.cons ?_ (StepsC.cons ?_ (StepsC.cons ?_ (StepsC.cons ?_ (StepsC.cons ?_ (StepsC.cons ?_ (StepsC.cons ?_ (StepsC.cons ?_ (StepsC.cons ?_ (StepsC.cons ?_ StepsC.nil))))))))))))))
                  · refine chain_is _ rfl ⟨_, rfl⟩ (by kernel_rfl) rfl ?_
                    intro a W k l0 h0 A0 hF hD
                    have e20 : a.tmps[20]?.getD undef = _ := (ev a 20).symm.trans (hF 20 (by kernel_rfl))
                    clear hF hD
                    go_simp
                  · refine chain_is _ rfl ⟨_, rfl⟩ (by kernel_rfl) rfl ?_
                    intro a W k l0 h0 A0 hF hD
                    have e141 : a.tmps[141]?.getD undef = .int .i64 0 := (ev a 141).symm.trans (hD _ (Array.mem_of_getElem? (i := 0) rfl) rfl)
                    clear hF hD
                    go_simp
                  · refine chain_is _ rfl ⟨_, rfl⟩ (by kernel_rfl) rfl ?_
                    intro a W k l0 h0 A0 hF hD
                    have e20 : a.tmps[20]?.getD undef = _ := (ev a 20).symm.trans (hF 20 (by kernel_rfl))
                    clear hF hD
                    go_simp
                  · refine chain_is _ rfl ⟨_, rfl⟩ (by kernel_rfl) rfl ?_
                    intro a W k l0 h0 A0 hF hD
                    have e143 : a.tmps[143]?.getD undef = .int .i64 0 := (ev a 143).symm.trans (hD _ (Array.mem_of_getElem? (i := 0) rfl) rfl)
                    clear hF hD
                    go_simp
                  · refine chain_is _ rfl ⟨_, rfl⟩ (by kernel_rfl) rfl ?_
                    intro a W k l0 h0 A0 hF hD
                    have e144 : a.tmps[144]?.getD undef = .int .i64 1 := (ev a 144).symm.trans (hD _ (Array.mem_of_getElem? (i := 0) rfl) rfl)
                    have e15 : a.tmps[15]?.getD undef = _ := (ev a 15).symm.trans (hF 15 (by kernel_rfl))
                    clear hF hD
                    go_simp
                  · refine chain_is _ rfl ⟨_, rfl⟩ (by kernel_rfl) rfl ?_
                    intro a W k l0 h0 A0 hF hD
                    have e145 : a.tmps[145]?.getD undef = .pointer (some ⟨BG, 1, none⟩) := (ev a 145).symm.trans (hD _ (Array.mem_of_getElem? (i := 0) rfl) rfl)
                    clear hF hD
                    have cB := (takeA_BG (rfl : _ = some (blkT BG 38 #[vg0, .slice aG g1.length cG])) (by decide) (by simp only [List.length_map, List.length_take]; omega) A0).cell 1
                    simp only [List.size_toArray, List.length_cons, List.length_nil, List.getElem?_toArray, List.getElem?_cons_zero, List.getElem?_cons_succ] at cB
                    go_simp
                  · refine chain_is _ rfl ⟨_, rfl⟩ (by kernel_rfl) rfl ?_
                    intro a W k l0 h0 A0 hF hD
                    have k0 : k = 0 := Nat.le_antisymm h0 l0
                    subst k0
                    clear l0 h0
                    have e20 : a.tmps[20]?.getD undef = _ := (ev a 20).symm.trans (hF 20 (by kernel_rfl))
                    clear hF hD
                    go_simp
                  · refine chain_is _ rfl ⟨_, rfl⟩ (by kernel_rfl) rfl ?_
                    intro a W k l0 h0 A0 hF hD
                    have k0 : k = 0 := Nat.le_antisymm h0 l0
                    subst k0
                    clear l0 h0
                    have e147 : a.tmps[147]?.getD undef = .int .i64 0 := (ev a 147).symm.trans (hD _ (Array.mem_of_getElem? (i := 0) rfl) rfl)
                    clear hF hD
                    go_simp
                  · refine chain_is _ rfl ⟨_, rfl⟩ (by kernel_rfl) rfl ?_
                    intro a W k l0 h0 A0 hF hD
                    have k0 : k = 0 := Nat.le_antisymm h0 l0
                    subst k0
                    clear l0 h0
                    have e148 : a.tmps[148]?.getD undef = .int .i64 1 := (ev a 148).symm.trans (hD _ (Array.mem_of_getElem? (i := 0) rfl) rfl)
                    have e13 : a.tmps[13]?.getD undef = _ := (ev a 13).symm.trans (hF 13 (by kernel_rfl))
                    clear hF hD
                    go_simp
                  · refine chain_is _ rfl ⟨_, rfl⟩ (by kernel_rfl) rfl ?_
                    intro a W k l0 h0 A0 hF hD
                    have k0 : k = 0 := Nat.le_antisymm h0 l0
                    subst k0
                    clear l0 h0
                    have e149 : a.tmps[149]?.getD undef = .pointer (some ⟨BE, 1, none⟩) := (ev a 149).symm.trans (hD _ (Array.mem_of_getElem? (i := 0) rfl) rfl)
                    clear hF hD
                    have A1 : Sep _ _ _ := A0
                    have cB := (A1.get 3 rfl : Blk _ _ _ _).cell 1
                    simp only [List.size_toArray, List.length_cons, List.length_nil, List.getElem?_toArray, List.getElem?_cons_zero, List.getElem?_cons_succ] at cB
                    go_simp
                  · refine chain_is _ rfl ⟨_, rfl⟩ (by kernel_rfl) rfl ?_
                    intro a W k l0 h0 A0 hF hD
                    have k0 : k = 0 := Nat.le_antisymm h0 l0
                    subst k0
                    clear l0 h0
                    have e23 : a.tmps[23]?.getD undef = _ := (ev a 23).symm.trans (hF 23 (by kernel_rfl))
                    clear hF hD
                    have A1 : Sep _ _ _ := A0
                    have cB0 := (A1.get 0 rfl : Blk _ _ _ _).cell 0
                    have cB1 := (A1.get 0 rfl : Blk _ _ _ _).cell 1
                    have cB2 := (A1.get 0 rfl : Blk _ _ _ _).cell 2
                    simp only [List.size_toArray, List.length_cons, List.length_nil, List.getElem?_toArray, List.getElem?_cons_zero, List.getElem?_cons_succ] at cB0 cB1 cB2
                    go_simp
                  · refine chain_call rfl ⟨_, rfl⟩ (by kernel_rfl) ?_
                    intro a W k l0 h0 A0 hF hD
                    have k0 : k = 0 := Nat.le_antisymm h0 l0
                    subst k0
                    clear l0 h0
                    have e150 : a.tmps[150]?.getD undef = .pointer (some ⟨b1, 0, none⟩) := (ev a 150).symm.trans (hD _ (Array.mem_of_getElem? (i := 0) rfl) rfl)
                    have e151 : a.tmps[151]?.getD undef = .agg #[.int .i64 x.ns, .int .i64 x.nr, .string x.body] := (ev a 151).symm.trans (hD _ (Array.mem_of_getElem? (i := 1) rfl) rfl)
                    clear hF hD
                    have A1 : Sep _ _ _ := A0
                    refine ⟨_, _, by (go_simp; first | done | rfl | exact ⟨rfl, rfl⟩), ?_⟩
                    refine (take_at (A1.get 2 rfl) x.ns x.nr x.body (by omega)).mono ?_
                    rintro e w3 ⟨⟨v3, p3, rfl, q3, r3⟩, h3, u3⟩
                    exact ⟨_, rfl, trivial, p3, A1.set_cons 2 rfl u3 (fun x hx => .inl hx) (t' := ctlT _ _ o1) h3 (fun x hx => .inl hx) (s := ownT 9 1 v3 _ _ p3) q3 r3 (fun k hk hk2 => by have h1 := r3 k hk; have h2 := (A1.get 2 rfl : CtlAt _ _ _ _).lt k hk2; omega)⟩
                  · refine chain_run rfl ⟨_, rfl⟩ (by kernel_rfl) ?_
                    intro a W k l0 h0 A0 hF hD
                    have k0 : k = 1 := Nat.le_antisymm h0 l0
                    subst k0
                    clear l0 h0
                    have e146 : a.tmps[146]?.getD undef = .slice aG g1.length cG := (ev a 146).symm.trans (hD _ (Array.mem_of_getElem? (i := 0) rfl) rfl)
                    clear hF hD
                    obtain ⟨p3, A1⟩ := A0
                    have HR := (A1.get 0 rfl : Own _ _ _ _ _ _ _).texts
                    have A2 := A1.drop
                    have HO := (A2.get 10 rfl : Own _ _ _ _ _ _ _)
                    have hT := C.take_len2 c1 x.ns x.nr x.body
                    obtain ⟨ao1, cap1, w5, own1, hrun, ho1, hin1, hu5⟩ := run_append_Rd (P := Try.prog) W 27 27 9 i0 _ 1 16 Try.underlying27 hi0 hz0 hz1 hz2 rfl (by decide) _ g1.length _ _ HO _ _ _ HR (by simp only [maxLen]; omega) (by omega)
                    exact ⟨_, w5, exec_append rfl ((ev a 146).trans e146) rfl hrun, trivial, own1, A2.set 10 rfl hu5 (fun x hx => .inl hx) (t' := ownT 9 1 _ (g1 ++ (c1.take x.ns x.nr x.body).2).length (strs (g1 ++ (c1.take x.ns x.nr x.body).2)) own1) (by simpa [strs, ownT] using ho1) hin1⟩
                  · refine chain_is _ rfl ⟨_, rfl⟩ (by kernel_rfl) rfl ?_
                    intro a W k l0 h0 A0 hF hD
                    have k0 : k = 2 := Nat.le_antisymm h0 l0
                    subst k0
                    clear l0 h0
                    have e142 : a.tmps[142]?.getD undef = .int .i64 1 := (ev a 142).symm.trans (hD _ (Array.mem_of_getElem? (i := 0) rfl) rfl)
                    have e15 : a.tmps[15]?.getD undef = _ := (ev a 15).symm.trans (hF 15 (by kernel_rfl))
                    clear hF hD
                    go_simp
                  · refine chain_set rfl rfl (by kernel_rfl) trivial ?_
                    intro a W k l0 h0 A0 hF hD
                    have k0 : k = 2 := Nat.le_antisymm h0 l0
                    subst k0
                    clear l0 h0
                    have e154 : a.tmps[154]?.getD undef = .pointer (some ⟨BG, 1, none⟩) := (ev a 154).symm.trans (hD _ (Array.mem_of_getElem? (i := 0) rfl) rfl)
                    clear hF hD
                    obtain ⟨own1, A1⟩ := A0
                    obtain ⟨ao1, cap1, hv, -, -⟩ := (A1.get 10 rfl : Own _ _ _ _ _ _ _).shape
                    rw [List.length_append] at hv
                    have e153 : a.tmps[153]?.getD undef = _ := (ev a 153).symm.trans hv
                    have cB := (A1.get 5 rfl : Blk _ _ _ _).cell 1
                    have fB := (A1.get 5 rfl : Blk _ _ _ _).frozen 1
                    simp only [List.size_toArray, List.length_cons, List.length_nil, List.getElem?_toArray, List.getElem?_cons_zero, List.getElem?_cons_succ] at cB
                    have hb := (A1.get 5 rfl : Blk _ _ _ _).set_ 1 (Value.slice ao1 (g1.length + (c1.take x.ns x.nr x.body).2.length) cap1)
                    refine ⟨_, by (go_simp; first | done | rfl | exact ⟨rfl, rfl⟩), own1, A1.set 5 rfl ((Upd.refl [BG] _).setCell _ (.inl (by simp))) (fun x hx => .inl hx) (t' := blkT BG 38 _) ?_ (fun x hx => .inl hx)⟩
                    rw [show leftAt _ a 12 = Value.slice ao1 (g1.length + (c1.take x.ns x.nr x.body).2.length) cap1 from hv]
                    exact hb
                intro vals W hv hA
                have v0 : vals 0 = .int .i64 0 := hv 0 (by decide)
                have v1 : vals 1 = .int .i64 1 := hv 1 (by decide)
                have v2 : vals 2 = .int .i64 0 := hv 2 (by decide)
                have v3 : vals 3 = .int .i64 1 := hv 3 (by decide)
                have v4 : vals 4 = .pointer (some ⟨BG, 1, none⟩) := hv 4 (by decide)
                have v5 : vals 5 = .slice aG g1.length cG := hv 5 (by decide)
                have v6 : vals 6 = .int .i64 0 := hv 6 (by decide)
                have v7 : vals 7 = .int .i64 1 := hv 7 (by decide)
                have v8 : vals 8 = .pointer (some ⟨BE, 1, none⟩) := hv 8 (by decide)
                have v9 : vals 9 = .pointer (some ⟨b1, 0, none⟩) := hv 9 (by decide)
                have v10 : vals 10 = .agg #[.int .i64 x.ns, .int .i64 x.nr, .string x.body] := hv 10 (by decide)
                have v13 : vals 13 = .pointer (some ⟨BG, 1, none⟩) := hv 13 (by decide)
                clear hv
                obtain ⟨own1, A1⟩ := hA
                have SP3 := Lib.hid A1
                clear A1
                generalize vals 12 = v12 at *
                simp only [putAll, Act.put, Nat.zero_add, Nat.reduceAdd, v0, v1, v2, v3, v4, v5, v6, v7, v8, v9, v10, v13, List.setIfInBounds_toArray, List.set_cons_zero, List.set_cons_succ]
                clear v0 v1 v2 v3 v4 v5 v6 v7 v8 v9 v10 v13
                go_wp2_with fail
                go_meet
                case rel =>
                  exact ⟨at_, rfl, by omega, ⟨⟨c0, (c1.take x.ns x.nr x.body).1, s0, s1, g0, (g1 ++ (c1.take x.ns x.nr x.body).2), (y0.take kk ++ y0.drop (kk + 1)), y1, vs0, vs1, vg0, v12, v15, vy1, o0, o1, os0, os1, og0, own1, ownY, oy1, SP3.out.drop, (BO.out.take HX.out).sub (cut_sub kk), by have := HY.out; have := HNY.out; simp only [List.length_append, List.length_take, List.length_drop]; omega⟩⟩⟩
          · as_aux_lemma =>
            obtain ⟨c0, c1, s0, s1, g0, g1, y0, y1, vs0, vs1, vg0, vg1, vy0, vy1, o0, o1, os0, os1, og0, og1, oy0, oy1, sp, bo, hy⟩ := HST.out.ex
            obtain ⟨aY, cY, hvY, hcY1, hcY⟩ := (sp.get 10 rfl : Own _ _ _ _ _ _ _).shape
            subst hvY
            simp only [maxLen] at hcY
            obtain ⟨nY, hnY⟩ : ∃ n, n = y0.length := ⟨_, rfl⟩
            have cB := (sp.get 5 rfl : Blk _ _ _ _).cell 0
            simp only [List.size_toArray, List.length_cons, List.length_nil, List.getElem?_toArray, List.getElem?_cons_zero, List.getElem?_cons_succ] at cB
            rw [← hnY] at cB hcY1
            have HNY := Lib.hid hnY
            have SP := Lib.hid sp
            have BO := Lib.hid bo
            have HY := Lib.hid hy
            clear sp bo hnY hy
            by_cases hy0 : nY = 0
            · subst hy0
              go_wp2_with fail
              go_roundg (n2 - (i + 1))
              case rel => exact ⟨i + 1, at_, by omega, by go_num, rfl, by omega, ⟨⟨c0, c1, s0, s1, g0, g1, y0, y1, vs0, vs1, vg0, vg1, (.slice aY y0.length cY), vy1, o0, o1, os0, os1, og0, og1, oy0, oy1, SP.out, BO.out, by have := HY.out; omega⟩⟩⟩
              case measure => omega
            · go_upto_region 19 with (fail)
              have h10 := i64_mask (P / 16) 10 (by omega)
              obtain ⟨kk, hkk, hlt⟩ : ∃ kk : Nat, (bits BinOp.and IntKind.i64 (P / 16) 1023).tmod nY = kk ∧ kk < nY := by
                rw [show (1023 : Int) = ((2 ^ 10 - 1 : Nat) : Int) from rfl, h10, Int.tmod_eq_emod_of_nonneg (by omega)]
                have h1 := Int.emod_nonneg (P / 16 % ((2 ^ 10 : Nat) : Int)) (b := (nY : Int)) (by omega)
                have h2 := Int.emod_lt_of_pos (P / 16 % ((2 ^ 10 : Nat) : Int)) (b := (nY : Int)) (by omega)
                exact ⟨((P / 16 % ((2 ^ 10 : Nat) : Int)) % (nY : Int)).toNat, by omega, by omega⟩
              rw [hkk]
              clear hkk h10
              obtain ⟨x, hx⟩ : ∃ x, y0[kk]? = some x := ⟨_, List.getElem?_eq_getElem (by have := HNY.out; omega)⟩
              obtain ⟨qY, rfl, c0_, c1_, c2_⟩ := ((SP.out.get 10 rfl : Own _ _ _ _ _ _ _).rd (items_oneCell _)).item hx
              have HX : Hid (x ∈ y0) := List.mem_of_getElem? hx
              have hxs : x.body.size ≤ 3 := BO.out.small HX.out
              have SPX := Lib.hid (SP.out.cons (t := blkT wr.heap.size 30 #[.int .i64 x.ns, .int .i64 x.nr, .string x.body]) ((Upd.refl _ _).alloc _) (Blk.new _ _ _) (by simp [blkT]))
              have hkd := HKD.out
              have lY := (SP.out.get 5 rfl : Blk _ _ _ _).lt
              clear hx SP
              go_upto_region 21 with (fail)
              refine gen_world (fun V => Sep w V (blkT wr.heap.size 30 #[.int .i64 x.ns, .int .i64 x.nr, .string x.body] :: brL b0 b1 BE BS BG BY c0 c1 s0 s1 g0 g1 y0 y1 vs0 vs1 vg0 vg1 (.slice (some qY) y0.length cY) vy1 o0 o1 os0 os1 og0 og1 oy0 oy1)) SPX.out ?_
              intro W1 SP1
              clear SPX
              generalize wr.heap.size = BX at *
              have SP2 := Lib.hid SP1
              clear SP1
              clear c0_ c1_ c2_ lY
              have hkn : kk + 1 ≤ y0.length := by have := HNY.out; omega
              have hyl : y0.length ≤ 42 * 400 := by have := HY.out; omega
              have hw13 : IntKind.i64.wrap ((kk : Int) + 1) = (kk : Int) + 1 := IntWalk.i64_in _ (by omega)
              have hsl := run_prefix (P := Try.prog) 31 Try.underlying31 3 size_item (some qY) y0.length cY kk (by have := HNY.out; omega)
              obtain ⟨vT, hvT⟩ : ∃ v, v = sliced (some qY) (kk + 1) y0.length cY 3 := ⟨_, rfl⟩
              have hss := run_suffix (P := Try.prog) 31 Try.underlying31 3 size_item (some qY) y0.length cY (kk + 1) hkn vT hvT
              rw [show (((kk + 1 : Nat) : Int)) = (kk : Int) + 1 by omega] at hss
              have HVT := Lib.hid hvT
              clear hvT
              refine wp_region_chain [some (.int .i64 0), some (.int .i64 0), some (.pointer (some ⟨BY, 0, none⟩)), some (.pointer (some ⟨BY, 0, none⟩)), some (.slice (some qY) y0.length cY), some (.int .i64 kk), some (.slice (some qY) kk cY), none, some (.int .i64 0), some (.pointer (some ⟨BY, 0, none⟩)), some (.pointer (some ⟨BY, 0, none⟩)), some (.slice (some qY) y0.length cY), some (.int .i64 kk), some (.int .i64 ((kk : Int) + 1)), some (vT), none, some (.pointer (some ⟨BY, 0, none⟩)), some (.pointer (some ⟨BY, 0, none⟩)), none] [7,15,18] (cutA w (blkT BX 30 #[.int .i64 x.ns, .int .i64 x.nr, .string x.body] :: brL b0 b1 BE BS BG BY c0 c1 s0 s1 g0 g1 y0 y1 vs0 vs1 vg0 vg1 (.slice (some qY) y0.length cY) vy1 o0 o1 os0 os1 og0 og1 oy0 oy1) BY (y0.take kk) (y0.drop (kk + 1)) (fun u => #[u, vy1])) [(0, 2), (0, 0), (0, 0), (0, 0), (0, 0), (0, 0), (0, 0), (0, 0), (0, 1), (0, 1), (0, 1), (0, 1), (0, 1), (0, 1), (0, 1), (1, 1), (2, 2), (2, 2), (2, 2)] (by kernel_rfl) (by kernel_rfl) (by kernel_rfl) (by kernel_rfl) (by kernel_rfl) (by kernel_rfl) (SP2.out.keep (Upd.refl _ _).drew) ?_ ?_
              · refine StepsC.cons ?_ (StepsC.cons ?_ (StepsC.cons ?_ (StepsC.cons ?_ (StepsC.cons ?_ (StepsC.cons ?_ (StepsC.cons ?_ (StepsC.cons ?_ (StepsC.cons ?_ (StepsC.cons ?_ (StepsC.cons ?_ (StepsC.cons ?_ (StepsC.cons ?_ (StepsC.cons ?_ (StepsC.cons ?_ (StepsC.cons ?_ (StepsC.cons ?_ (StepsC.cons ?_ (StepsC.cons ?_ StepsC.nil))))))))))))))))))
                · refine chain_is _ rfl ⟨_, rfl⟩ (by kernel_rfl) rfl ?_
                  intro a W k l0 h0 A0 hF hD
                  have e20 : a.tmps[20]?.getD undef = _ := (ev a 20).symm.trans (hF 20 (by kernel_rfl))
                  clear hF hD
                  go_simp
                · refine chain_is _ rfl ⟨_, rfl⟩ (by kernel_rfl) rfl ?_
                  intro a W k l0 h0 A0 hF hD
                  have k0 : k = 0 := Nat.le_antisymm h0 l0
                  subst k0
                  clear l0 h0
                  have e20 : a.tmps[20]?.getD undef = _ := (ev a 20).symm.trans (hF 20 (by kernel_rfl))
                  clear hF hD
                  go_simp
                · refine chain_is _ rfl ⟨_, rfl⟩ (by kernel_rfl) rfl ?_
                  intro a W k l0 h0 A0 hF hD
                  have k0 : k = 0 := Nat.le_antisymm h0 l0
                  subst k0
                  clear l0 h0
                  have e120 : a.tmps[120]?.getD undef = .int .i64 0 := (ev a 120).symm.trans (hD _ (Array.mem_of_getElem? (i := 0) rfl) rfl)
                  have e16 : a.tmps[16]?.getD undef = _ := (ev a 16).symm.trans (hF 16 (by kernel_rfl))
                  clear hF hD
                  go_simp
                · refine chain_is _ rfl ⟨_, rfl⟩ (by kernel_rfl) rfl ?_
                  intro a W k l0 h0 A0 hF hD
                  have k0 : k = 0 := Nat.le_antisymm h0 l0
                  subst k0
                  clear l0 h0
                  have e121 : a.tmps[121]?.getD undef = .pointer (some ⟨BY, 0, none⟩) := (ev a 121).symm.trans (hD _ (Array.mem_of_getElem? (i := 0) rfl) rfl)
                  clear hF hD
                  go_simp
                · refine chain_is _ rfl ⟨_, rfl⟩ (by kernel_rfl) rfl ?_
                  intro a W k l0 h0 A0 hF hD
                  have k0 : k = 0 := Nat.le_antisymm h0 l0
                  subst k0
                  clear l0 h0
                  have e122 : a.tmps[122]?.getD undef = .pointer (some ⟨BY, 0, none⟩) := (ev a 122).symm.trans (hD _ (Array.mem_of_getElem? (i := 0) rfl) rfl)
                  clear hF hD
                  have A1 : Sep _ _ _ := A0
                  have cB := (A1.get 6 rfl : Blk _ _ _ _).cell 0
                  simp only [List.size_toArray, List.length_cons, List.length_nil, List.getElem?_toArray, List.getElem?_cons_zero, List.getElem?_cons_succ] at cB
                  go_simp
                · refine chain_is _ rfl ⟨_, rfl⟩ (by kernel_rfl) rfl ?_
                  intro a W k l0 h0 A0 hF hD
                  have k0 : k = 0 := Nat.le_antisymm h0 l0
                  subst k0
                  clear l0 h0
                  have e22 : a.tmps[22]?.getD undef = _ := (ev a 22).symm.trans (hF 22 (by kernel_rfl))
                  clear hF hD
                  go_simp
                · refine chain_is _ rfl ⟨_, rfl⟩ (by kernel_rfl) rfl ?_
                  intro a W k l0 h0 A0 hF hD
                  have k0 : k = 0 := Nat.le_antisymm h0 l0
                  subst k0
                  clear l0 h0
                  have e123 : a.tmps[123]?.getD undef = .slice (some qY) y0.length cY := (ev a 123).symm.trans (hD _ (Array.mem_of_getElem? (i := 0) rfl) rfl)
                  have e124 : a.tmps[124]?.getD undef = .int .i64 kk := (ev a 124).symm.trans (hD _ (Array.mem_of_getElem? (i := 1) rfl) rfl)
                  clear hF hD
                  go_simp
                · refine chain_run rfl ⟨_, rfl⟩ (by kernel_rfl) ?_
                  intro a W k l0 h0 A0 hF hD
                  have k0 : k = 0 := Nat.le_antisymm h0 l0
                  subst k0
                  clear l0 h0
                  have e125 : a.tmps[125]?.getD undef = .slice (some qY) kk cY := (ev a 125).symm.trans (hD _ (Array.mem_of_getElem? (i := 0) rfl) rfl)
                  clear hF hD
                  have A1 : Sep _ _ _ := A0
                  have HR0 := ((A1.get 11 rfl : Own _ _ _ _ _ _ _).rd (items_oneCell _)).cut (m := kk) (by omega)
                  rw [← items_take] at HR0
                  obtain ⟨ao1, cap1, w5, own1, hrun, ho1, hin1, hu5⟩ := run_append_Rd (P := Try.prog) W 31 31 30 j0 _ 3 32 Try.underlying31 ji0 jz0 jz1 jz2 rfl (by decide) _ 0 _ _ (Own.nil _ _ _) _ _ _ HR0 (by simp only [maxLen]; omega) (by omega)
                  exact ⟨_, w5, exec_append rfl rfl ((ev a 125).trans e125) hrun, trivial, own1, A1.cons (t := ownT 30 3 _ (y0.take kk).length (items (y0.take kk)) own1) hu5 (by have hl : 0 + kk = (y0.take kk).length := (by rw [List.length_take]; omega); rw [← hl]; simpa [ownT] using ho1) (fun k hk => (hin1 k hk).resolve_left (by simp))⟩
                · refine chain_is _ rfl ⟨_, rfl⟩ (by kernel_rfl) rfl ?_
                  intro a W k l0 h0 A0 hF hD
                  have e20 : a.tmps[20]?.getD undef = _ := (ev a 20).symm.trans (hF 20 (by kernel_rfl))
                  clear hF hD
                  go_simp
                · refine chain_is _ rfl ⟨_, rfl⟩ (by kernel_rfl) rfl ?_
                  intro a W k l0 h0 A0 hF hD
                  have e127 : a.tmps[127]?.getD undef = .int .i64 0 := (ev a 127).symm.trans (hD _ (Array.mem_of_getElem? (i := 0) rfl) rfl)
                  have e16 : a.tmps[16]?.getD undef = _ := (ev a 16).symm.trans (hF 16 (by kernel_rfl))
                  clear hF hD
                  go_simp
                · refine chain_is _ rfl ⟨_, rfl⟩ (by kernel_rfl) rfl ?_
                  intro a W k l0 h0 A0 hF hD
                  have e128 : a.tmps[128]?.getD undef = .pointer (some ⟨BY, 0, none⟩) := (ev a 128).symm.trans (hD _ (Array.mem_of_getElem? (i := 0) rfl) rfl)
                  clear hF hD
                  go_simp
                · refine chain_is _ rfl ⟨_, rfl⟩ (by kernel_rfl) rfl ?_
                  intro a W k l0 h0 A0 hF hD
                  have e129 : a.tmps[129]?.getD undef = .pointer (some ⟨BY, 0, none⟩) := (ev a 129).symm.trans (hD _ (Array.mem_of_getElem? (i := 0) rfl) rfl)
                  clear hF hD
                  have A1 := cutA_L (by simp only [List.length_map, List.length_take]; omega) A0
                  have cB := (A1.get 6 rfl : Blk _ _ _ _).cell 0
                  simp only [List.size_toArray, List.length_cons, List.length_nil, List.getElem?_toArray, List.getElem?_cons_zero, List.getElem?_cons_succ] at cB
                  go_simp
                · refine chain_is _ rfl ⟨_, rfl⟩ (by kernel_rfl) rfl ?_
                  intro a W k l0 h0 A0 hF hD
                  have e22 : a.tmps[22]?.getD undef = _ := (ev a 22).symm.trans (hF 22 (by kernel_rfl))
                  clear hF hD
                  go_simp
                · refine chain_is _ rfl ⟨_, rfl⟩ (by kernel_rfl) rfl ?_
                  intro a W k l0 h0 A0 hF hD
                  have e131 : a.tmps[131]?.getD undef = .int .i64 kk := (ev a 131).symm.trans (hD _ (Array.mem_of_getElem? (i := 0) rfl) rfl)
                  clear hF hD
                  go_simp
                · refine chain_is _ rfl ⟨_, rfl⟩ (by kernel_rfl) rfl ?_
                  intro a W k l0 h0 A0 hF hD
                  have e130 : a.tmps[130]?.getD undef = .slice (some qY) y0.length cY := (ev a 130).symm.trans (hD _ (Array.mem_of_getElem? (i := 0) rfl) rfl)
                  have e132 : a.tmps[132]?.getD undef = .int .i64 ((kk : Int) + 1) := (ev a 132).symm.trans (hD _ (Array.mem_of_getElem? (i := 1) rfl) rfl)
                  clear hF hD
                  go_simp
                · refine chain_run rfl ⟨_, rfl⟩ (by kernel_rfl) ?_
                  intro a W k l0 h0 A0 hF hD
                  have k0 : k = 1 := Nat.le_antisymm h0 l0
                  subst k0
                  clear l0 h0
                  have e133 : a.tmps[133]?.getD undef = vT := (ev a 133).symm.trans (hD _ (Array.mem_of_getElem? (i := 1) rfl) rfl)
                  clear hF hD
                  obtain ⟨p3, A1⟩ := A0
                  have HR0 := ((A1.get 12 rfl : Own _ _ _ _ _ _ _).rd (items_oneCell _)).tail (m := kk + 1) hkn
                  rw [← items_drop, ← HVT.out] at HR0
                  have HO := (A1.get 0 rfl : Own _ _ _ _ _ _ _)
                  have hlt2 : (y0.take kk).length ≤ 42 * 400 := by rw [List.length_take]; omega
                  obtain ⟨ao1, cap1, w5, own1, hrun, ho1, hin1, hu5⟩ := run_append_Rd (P := Try.prog) W 31 31 30 j0 _ 3 32 Try.underlying31 ji0 jz0 jz1 jz2 rfl (by decide) _ (y0.take kk).length _ _ HO _ _ _ HR0 (by simp only [maxLen]; omega) (by omega)
                  exact ⟨_, w5, exec_append rfl rfl ((ev a 133).trans e133) hrun, trivial, own1, A1.set 0 rfl hu5 (fun x hx => .inl hx) (t' := ownT 30 3 _ (y0.take kk ++ y0.drop (kk + 1)).length (items (y0.take kk ++ y0.drop (kk + 1))) own1) (by have hl : (y0.take kk).length + (y0.length - (kk + 1)) = (y0.take kk ++ y0.drop (kk + 1)).length := (by rw [List.length_append, List.length_drop]); rw [← hl]; have hc : items (y0.take kk ++ y0.drop (kk + 1)) = items (y0.take kk) ++ items (y0.drop (kk + 1)) := (by simp [items]); rw [hc]; exact ho1) hin1⟩
                · refine chain_is _ rfl ⟨_, rfl⟩ (by kernel_rfl) rfl ?_
                  intro a W k l0 h0 A0 hF hD
                  have k0 : k = 2 := Nat.le_antisymm h0 l0
                  subst k0
                  clear l0 h0
                  have e119 : a.tmps[119]?.getD undef = .int .i64 0 := (ev a 119).symm.trans (hD _ (Array.mem_of_getElem? (i := 0) rfl) rfl)
                  have e16 : a.tmps[16]?.getD undef = _ := (ev a 16).symm.trans (hF 16 (by kernel_rfl))
                  clear hF hD
                  go_simp
                · refine chain_is _ rfl ⟨_, rfl⟩ (by kernel_rfl) rfl ?_
                  intro a W k l0 h0 A0 hF hD
                  have k0 : k = 2 := Nat.le_antisymm h0 l0
                  subst k0
                  clear l0 h0
                  have e135 : a.tmps[135]?.getD undef = .pointer (some ⟨BY, 0, none⟩) := (ev a 135).symm.trans (hD _ (Array.mem_of_getElem? (i := 0) rfl) rfl)
                  clear hF hD
                  go_simp
                · refine chain_set rfl rfl (by kernel_rfl) trivial ?_
                  intro a W k l0 h0 A0 hF hD
                  have k0 : k = 2 := Nat.le_antisymm h0 l0
                  subst k0
                  clear l0 h0
                  have e136 : a.tmps[136]?.getD undef = .pointer (some ⟨BY, 0, none⟩) := (ev a 136).symm.trans (hD _ (Array.mem_of_getElem? (i := 0) rfl) rfl)
                  clear hF hD
                  obtain ⟨own1, A1⟩ := A0
                  obtain ⟨ao1, cap1, hv, -, -⟩ := (A1.get 0 rfl : Own _ _ _ _ _ _ _).shape
                  obtain ⟨nn, hnn⟩ : ∃ n, n = (y0.take kk ++ y0.drop (kk + 1)).length := ⟨_, rfl⟩
                  rw [← hnn] at hv
                  clear hnn
                  have e134 : a.tmps[134]?.getD undef = _ := (ev a 134).symm.trans hv
                  have cB := (A1.get 7 rfl : Blk _ _ _ _).cell 0
                  have fB := (A1.get 7 rfl : Blk _ _ _ _).frozen 0
                  simp only [List.size_toArray, List.length_cons, List.length_nil, List.getElem?_toArray, List.getElem?_cons_zero, List.getElem?_cons_succ] at cB
                  have hb := (A1.get 7 rfl : Blk _ _ _ _).set_ 0 (Value.slice ao1 nn cap1)
                  refine ⟨_, by (go_simp; first | done | rfl | exact ⟨rfl, rfl⟩), own1, A1.set 7 rfl ((Upd.refl [BY] _).setCell _ (.inl (by simp))) (fun x hx => .inl hx) (t' := blkT BY 41 _) ?_ (fun x hx => .inl hx)⟩
                  rw [show leftAt _ a 15 = Value.slice ao1 nn cap1 from hv]
                  exact hb
              intro vals W hv hA
              have v0 : vals 0 = .int .i64 0 := hv 0 (by decide)
              have v1 : vals 1 = .int .i64 0 := hv 1 (by decide)
              have v2 : vals 2 = .pointer (some ⟨BY, 0, none⟩) := hv 2 (by decide)
              have v3 : vals 3 = .pointer (some ⟨BY, 0, none⟩) := hv 3 (by decide)
              have v4 : vals 4 = .slice (some qY) y0.length cY := hv 4 (by decide)
              have v5 : vals 5 = .int .i64 kk := hv 5 (by decide)
              have v6 : vals 6 = .slice (some qY) kk cY := hv 6 (by decide)
              have v8 : vals 8 = .int .i64 0 := hv 8 (by decide)
              have v9 : vals 9 = .pointer (some ⟨BY, 0, none⟩) := hv 9 (by decide)
              have v10 : vals 10 = .pointer (some ⟨BY, 0, none⟩) := hv 10 (by decide)
              have v11 : vals 11 = .slice (some qY) y0.length cY := hv 11 (by decide)
              have v12 : vals 12 = .int .i64 kk := hv 12 (by decide)
              have v13 : vals 13 = .int .i64 ((kk : Int) + 1) := hv 13 (by decide)
              have v14 : vals 14 = vT := hv 14 (by decide)
              have v16 : vals 16 = .pointer (some ⟨BY, 0, none⟩) := hv 16 (by decide)
              have v17 : vals 17 = .pointer (some ⟨BY, 0, none⟩) := hv 17 (by decide)
              clear hv
              obtain ⟨ownY, A1⟩ := hA
              clear SP2
              have SP2 := Lib.hid (A1.move 11)
              clear A1 hsl hss
              generalize vals 15 = v15 at *
              simp only [putAll, Act.put, Nat.zero_add, Nat.reduceAdd, v0, v1, v2, v3, v4, v5, v6, v8, v9, v10, v11, v12, v13, v14, v16, v17, List.setIfInBounds_toArray, List.set_cons_zero, List.set_cons_succ]
              clear v0 v1 v2 v3 v4 v5 v6 v8 v9 v10 v11 v12 v13 v14 v16 v17
              go_upto_region 22 with (fail)
              by_cases tl : bits BinOp.and IntKind.i64 (P / 16384) 3 = 0
              · go_wp2_with fail
                go_meet
                case rel => exact ⟨at_, rfl, by omega, ⟨⟨c0, c1, s0, s1, g0, g1, (y0.take kk ++ y0.drop (kk + 1)), y1, vs0, vs1, vg0, vg1, v15, vy1, o0, o1, os0, os1, og0, og1, ownY, oy1, SP2.out.drop, BO.out.sub (cut_sub kk), by have := HY.out; have := HNY.out; simp only [List.length_append, List.length_take, List.length_drop]; omega⟩⟩⟩
              · have tl2 : ((bits BinOp.and IntKind.i64 (P / 16384) 3) != 0) = true := by simpa using tl
                go_upto_region 23 with (fail)
                obtain ⟨aG, cG, hvG, -, hcG⟩ := (SP2.out.get 10 rfl : Own _ _ _ _ _ _ _).shape
                subst hvG
                simp only [maxLen] at hcG
                have hgl : g1.length ≤ 60 := by have h1 := BO.out.good; have h2 := BO.out.few; have h3 := BO.out.n60; omega
                have hw1 : IntKind.i64.wrap 1 = 1 := by rfl
                clear tl tl2 hkd
                refine wp_region_chain [some (.int .i64 0), some (.int .i64 1), some (.int .i64 0), some (.int .i64 1), some (.pointer (some ⟨BG, 1, none⟩)), some (.slice aG g1.length cG), some (.int .i64 0), some (.int .i64 1), some (.pointer (some ⟨BE, 1, none⟩)), some (.pointer (some ⟨b1, 0, none⟩)), some (.agg #[.int .i64 x.ns, .int .i64 x.nr, .string x.body]), none, none, some (.pointer (some ⟨BG, 1, none⟩)), none] [11,12,14] (takeA w (blkT BX 30 #[.int .i64 x.ns, .int .i64 x.nr, .string x.body] :: brL b0 b1 BE BS BG BY c0 c1 s0 s1 g0 g1 (y0.take kk ++ y0.drop (kk + 1)) y1 vs0 vs1 vg0 (.slice aG g1.length cG) v15 vy1 o0 o1 os0 os1 og0 og1 ownY oy1) 1 b1 BG c1 x g1 o1 (fun u => #[vg0, u])) [(0, 2), (0, 2), (0, 1), (0, 1), (0, 1), (0, 1), (0, 0), (0, 0), (0, 0), (0, 0), (0, 0), (0, 0), (1, 1), (2, 2), (2, 2)] (by kernel_rfl) (by kernel_rfl) (by kernel_rfl) (by kernel_rfl) (by kernel_rfl) (by kernel_rfl) (SP2.out.keep (Upd.refl _ _).drew) ?_ ?_
                · refine StepsC.cons ?_ (StepsC.cons ?_ (StepsC.cons ?_ (StepsC.cons ?_ (StepsC.cons ?_ (StepsC.cons ?_ (StepsC.cons ?_ (StepsC.cons ?_ (StepsC.cons ?_ (StepsC.cons ?_ (StepsC.cons ?_ (StepsC.cons ?_ (StepsC.cons ?_ (StepsC.cons ?_ (StepsC.cons ?_ StepsC.nil))))))))))))))
                  · refine chain_is _ rfl ⟨_, rfl⟩ (by kernel_rfl) rfl ?_
                    intro a W k l0 h0 A0 hF hD
                    have e20 : a.tmps[20]?.getD undef = _ := (ev a 20).symm.trans (hF 20 (by kernel_rfl))
                    clear hF hD
                    go_simp
                  · refine chain_is _ rfl ⟨_, rfl⟩ (by kernel_rfl) rfl ?_
                    intro a W k l0 h0 A0 hF hD
                    have e141 : a.tmps[141]?.getD undef = .int .i64 0 := (ev a 141).symm.trans (hD _ (Array.mem_of_getElem? (i := 0) rfl) rfl)
                    clear hF hD
                    go_simp
                  · refine chain_is _ rfl ⟨_, rfl⟩ (by kernel_rfl) rfl ?_
                    intro a W k l0 h0 A0 hF hD
                    have e20 : a.tmps[20]?.getD undef = _ := (ev a 20).symm.trans (hF 20 (by kernel_rfl))
                    clear hF hD
                    go_simp
                  · refine chain_is _ rfl ⟨_, rfl⟩ (by kernel_rfl) rfl ?_
                    intro a W k l0 h0 A0 hF hD
                    have e143 : a.tmps[143]?.getD undef = .int .i64 0 := (ev a 143).symm.trans (hD _ (Array.mem_of_getElem? (i := 0) rfl) rfl)
                    clear hF hD
                    go_simp
                  · refine chain_is _ rfl ⟨_, rfl⟩ (by kernel_rfl) rfl ?_
                    intro a W k l0 h0 A0 hF hD
                    have e144 : a.tmps[144]?.getD undef = .int .i64 1 := (ev a 144).symm.trans (hD _ (Array.mem_of_getElem? (i := 0) rfl) rfl)
                    have e15 : a.tmps[15]?.getD undef = _ := (ev a 15).symm.trans (hF 15 (by kernel_rfl))
                    clear hF hD
                    go_simp
                  · refine chain_is _ rfl ⟨_, rfl⟩ (by kernel_rfl) rfl ?_
                    intro a W k l0 h0 A0 hF hD
                    have e145 : a.tmps[145]?.getD undef = .pointer (some ⟨BG, 1, none⟩) := (ev a 145).symm.trans (hD _ (Array.mem_of_getElem? (i := 0) rfl) rfl)
                    clear hF hD
                    have cB := (takeA_BG (rfl : _ = some (blkT BG 38 #[vg0, .slice aG g1.length cG])) (by decide) (by simp only [List.length_map, List.length_take]; omega) A0).cell 1
                    simp only [List.size_toArray, List.length_cons, List.length_nil, List.getElem?_toArray, List.getElem?_cons_zero, List.getElem?_cons_succ] at cB
                    go_simp
                  · refine chain_is _ rfl ⟨_, rfl⟩ (by kernel_rfl) rfl ?_
                    intro a W k l0 h0 A0 hF hD
                    have k0 : k = 0 := Nat.le_antisymm h0 l0
                    subst k0
                    clear l0 h0
                    have e20 : a.tmps[20]?.getD undef = _ := (ev a 20).symm.trans (hF 20 (by kernel_rfl))
                    clear hF hD
                    go_simp
                  · refine chain_is _ rfl ⟨_, rfl⟩ (by kernel_rfl) rfl ?_
                    intro a W k l0 h0 A0 hF hD
                    have k0 : k = 0 := Nat.le_antisymm h0 l0
                    subst k0
                    clear l0 h0
                    have e147 : a.tmps[147]?.getD undef = .int .i64 0 := (ev a 147).symm.trans (hD _ (Array.mem_of_getElem? (i := 0) rfl) rfl)
                    clear hF hD
                    go_simp
                  · refine chain_is _ rfl ⟨_, rfl⟩ (by kernel_rfl) rfl ?_
                    intro a W k l0 h0 A0 hF hD
                    have k0 : k = 0 := Nat.le_antisymm h0 l0
                    subst k0
                    clear l0 h0
                    have e148 : a.tmps[148]?.getD undef = .int .i64 1 := (ev a 148).symm.trans (hD _ (Array.mem_of_getElem? (i := 0) rfl) rfl)
                    have e13 : a.tmps[13]?.getD undef = _ := (ev a 13).symm.trans (hF 13 (by kernel_rfl))
                    clear hF hD
                    go_simp
                  · refine chain_is _ rfl ⟨_, rfl⟩ (by kernel_rfl) rfl ?_
                    intro a W k l0 h0 A0 hF hD
                    have k0 : k = 0 := Nat.le_antisymm h0 l0
                    subst k0
                    clear l0 h0
                    have e149 : a.tmps[149]?.getD undef = .pointer (some ⟨BE, 1, none⟩) := (ev a 149).symm.trans (hD _ (Array.mem_of_getElem? (i := 0) rfl) rfl)
                    clear hF hD
                    have A1 : Sep _ _ _ := A0
                    have cB := (A1.get 3 rfl : Blk _ _ _ _).cell 1
                    simp only [List.size_toArray, List.length_cons, List.length_nil, List.getElem?_toArray, List.getElem?_cons_zero, List.getElem?_cons_succ] at cB
                    go_simp
                  · refine chain_is _ rfl ⟨_, rfl⟩ (by kernel_rfl) rfl ?_
                    intro a W k l0 h0 A0 hF hD
                    have k0 : k = 0 := Nat.le_antisymm h0 l0
                    subst k0
                    clear l0 h0
                    have e23 : a.tmps[23]?.getD undef = _ := (ev a 23).symm.trans (hF 23 (by kernel_rfl))
                    clear hF hD
                    have A1 : Sep _ _ _ := A0
                    have cB0 := (A1.get 0 rfl : Blk _ _ _ _).cell 0
                    have cB1 := (A1.get 0 rfl : Blk _ _ _ _).cell 1
                    have cB2 := (A1.get 0 rfl : Blk _ _ _ _).cell 2
                    simp only [List.size_toArray, List.length_cons, List.length_nil, List.getElem?_toArray, List.getElem?_cons_zero, List.getElem?_cons_succ] at cB0 cB1 cB2
                    go_simp
                  · refine chain_call rfl ⟨_, rfl⟩ (by kernel_rfl) ?_
                    intro a W k l0 h0 A0 hF hD
                    have k0 : k = 0 := Nat.le_antisymm h0 l0
                    subst k0
                    clear l0 h0
                    have e150 : a.tmps[150]?.getD undef = .pointer (some ⟨b1, 0, none⟩) := (ev a 150).symm.trans (hD _ (Array.mem_of_getElem? (i := 0) rfl) rfl)
                    have e151 : a.tmps[151]?.getD undef = .agg #[.int .i64 x.ns, .int .i64 x.nr, .string x.body] := (ev a 151).symm.trans (hD _ (Array.mem_of_getElem? (i := 1) rfl) rfl)
                    clear hF hD
                    have A1 : Sep _ _ _ := A0
                    refine ⟨_, _, by (go_simp; first | done | rfl | exact ⟨rfl, rfl⟩), ?_⟩
                    refine (take_at (A1.get 2 rfl) x.ns x.nr x.body (by omega)).mono ?_
                    rintro e w3 ⟨⟨v3, p3, rfl, q3, r3⟩, h3, u3⟩
                    exact ⟨_, rfl, trivial, p3, A1.set_cons 2 rfl u3 (fun x hx => .inl hx) (t' := ctlT _ _ o1) h3 (fun x hx => .inl hx) (s := ownT 9 1 v3 _ _ p3) q3 r3 (fun k hk hk2 => by have h1 := r3 k hk; have h2 := (A1.get 2 rfl : CtlAt _ _ _ _).lt k hk2; omega)⟩
                  · refine chain_run rfl ⟨_, rfl⟩ (by kernel_rfl) ?_
                    intro a W k l0 h0 A0 hF hD
                    have k0 : k = 1 := Nat.le_antisymm h0 l0
                    subst k0
                    clear l0 h0
                    have e146 : a.tmps[146]?.getD undef = .slice aG g1.length cG := (ev a 146).symm.trans (hD _ (Array.mem_of_getElem? (i := 0) rfl) rfl)
                    clear hF hD
                    obtain ⟨p3, A1⟩ := A0
                    have HR := (A1.get 0 rfl : Own _ _ _ _ _ _ _).texts
                    have A2 := A1.drop
                    have HO := (A2.get 10 rfl : Own _ _ _ _ _ _ _)
                    have hT := C.take_len2 c1 x.ns x.nr x.body
                    obtain ⟨ao1, cap1, w5, own1, hrun, ho1, hin1, hu5⟩ := run_append_Rd (P := Try.prog) W 27 27 9 i0 _ 1 16 Try.underlying27 hi0 hz0 hz1 hz2 rfl (by decide) _ g1.length _ _ HO _ _ _ HR (by simp only [maxLen]; omega) (by omega)
                    exact ⟨_, w5, exec_append rfl ((ev a 146).trans e146) rfl hrun, trivial, own1, A2.set 10 rfl hu5 (fun x hx => .inl hx) (t' := ownT 9 1 _ (g1 ++ (c1.take x.ns x.nr x.body).2).length (strs (g1 ++ (c1.take x.ns x.nr x.body).2)) own1) (by simpa [strs, ownT] using ho1) hin1⟩
                  · refine chain_is _ rfl ⟨_, rfl⟩ (by kernel_rfl) rfl ?_
                    intro a W k l0 h0 A0 hF hD
                    have k0 : k = 2 := Nat.le_antisymm h0 l0
                    subst k0
                    clear l0 h0
                    have e142 : a.tmps[142]?.getD undef = .int .i64 1 := (ev a 142).symm.trans (hD _ (Array.mem_of_getElem? (i := 0) rfl) rfl)
                    have e15 : a.tmps[15]?.getD undef = _ := (ev a 15).symm.trans (hF 15 (by kernel_rfl))
                    clear hF hD
                    go_simp
                  · refine chain_set rfl rfl (by kernel_rfl) trivial ?_
                    intro a W k l0 h0 A0 hF hD
                    have k0 : k = 2 := Nat.le_antisymm h0 l0
                    subst k0
                    clear l0 h0
                    have e154 : a.tmps[154]?.getD undef = .pointer (some ⟨BG, 1, none⟩) := (ev a 154).symm.trans (hD _ (Array.mem_of_getElem? (i := 0) rfl) rfl)
                    clear hF hD
                    obtain ⟨own1, A1⟩ := A0
                    obtain ⟨ao1, cap1, hv, -, -⟩ := (A1.get 10 rfl : Own _ _ _ _ _ _ _).shape
                    rw [List.length_append] at hv
                    have e153 : a.tmps[153]?.getD undef = _ := (ev a 153).symm.trans hv
                    have cB := (A1.get 5 rfl : Blk _ _ _ _).cell 1
                    have fB := (A1.get 5 rfl : Blk _ _ _ _).frozen 1
                    simp only [List.size_toArray, List.length_cons, List.length_nil, List.getElem?_toArray, List.getElem?_cons_zero, List.getElem?_cons_succ] at cB
                    have hb := (A1.get 5 rfl : Blk _ _ _ _).set_ 1 (Value.slice ao1 (g1.length + (c1.take x.ns x.nr x.body).2.length) cap1)
                    refine ⟨_, by (go_simp; first | done | rfl | exact ⟨rfl, rfl⟩), own1, A1.set 5 rfl ((Upd.refl [BG] _).setCell _ (.inl (by simp))) (fun x hx => .inl hx) (t' := blkT BG 38 _) ?_ (fun x hx => .inl hx)⟩
                    rw [show leftAt _ a 12 = Value.slice ao1 (g1.length + (c1.take x.ns x.nr x.body).2.length) cap1 from hv]
                    exact hb
                intro vals W hv hA
                have v0 : vals 0 = .int .i64 0 := hv 0 (by decide)
                have v1 : vals 1 = .int .i64 1 := hv 1 (by decide)
                have v2 : vals 2 = .int .i64 0 := hv 2 (by decide)
                have v3 : vals 3 = .int .i64 1 := hv 3 (by decide)
                have v4 : vals 4 = .pointer (some ⟨BG, 1, none⟩) := hv 4 (by decide)
                have v5 : vals 5 = .slice aG g1.length cG := hv 5 (by decide)
                have v6 : vals 6 = .int .i64 0 := hv 6 (by decide)
                have v7 : vals 7 = .int .i64 1 := hv 7 (by decide)
                have v8 : vals 8 = .pointer (some ⟨BE, 1, none⟩) := hv 8 (by decide)
                have v9 : vals 9 = .pointer (some ⟨b1, 0, none⟩) := hv 9 (by decide)
                have v10 : vals 10 = .agg #[.int .i64 x.ns, .int .i64 x.nr, .string x.body] := hv 10 (by decide)
                have v13 : vals 13 = .pointer (some ⟨BG, 1, none⟩) := hv 13 (by decide)
                clear hv
                obtain ⟨own1, A1⟩ := hA
                have SP3 := Lib.hid A1
                clear A1
                generalize vals 12 = v12 at *
                simp only [putAll, Act.put, Nat.zero_add, Nat.reduceAdd, v0, v1, v2, v3, v4, v5, v6, v7, v8, v9, v10, v13, List.setIfInBounds_toArray, List.set_cons_zero, List.set_cons_succ]
                clear v0 v1 v2 v3 v4 v5 v6 v7 v8 v9 v10 v13
                go_wp2_with fail
                go_meet
                case rel =>
                  exact ⟨at_, rfl, by omega, ⟨⟨c0, (c1.take x.ns x.nr x.body).1, s0, s1, g0, (g1 ++ (c1.take x.ns x.nr x.body).2), (y0.take kk ++ y0.drop (kk + 1)), y1, vs0, vs1, vg0, v12, v15, vy1, o0, o1, os0, os1, og0, own1, ownY, oy1, SP3.out.drop, (BO.out.take HX.out).sub (cut_sub kk), by have := HY.out; have := HNY.out; simp only [List.length_append, List.length_take, List.length_drop]; omega⟩⟩⟩
          · as_aux_lemma =>
            obtain ⟨c0, c1, s0, s1, g0, g1, y0, y1, vs0, vs1, vg0, vg1, vy0, vy1, o0, o1, os0, os1, og0, og1, oy0, oy1, sp, bo, hy⟩ := HST.out.ex
            obtain ⟨aY, cY, hvY, hcY1, hcY⟩ := (sp.get 10 rfl : Own _ _ _ _ _ _ _).shape
            subst hvY
            simp only [maxLen] at hcY
            obtain ⟨nY, hnY⟩ : ∃ n, n = y0.length := ⟨_, rfl⟩
            have cB := (sp.get 5 rfl : Blk _ _ _ _).cell 0
            simp only [List.size_toArray, List.length_cons, List.length_nil, List.getElem?_toArray, List.getElem?_cons_zero, List.getElem?_cons_succ] at cB
            rw [← hnY] at cB hcY1
            have HNY := Lib.hid hnY
            have SP := Lib.hid sp
            have BO := Lib.hid bo
            have HY := Lib.hid hy
            clear sp bo hnY hy
            by_cases hy0 : nY = 0
            · subst hy0
              go_wp2_with fail
              go_roundg (n2 - (i + 1))
              case rel => exact ⟨i + 1, at_, by omega, by go_num, rfl, by omega, ⟨⟨c0, c1, s0, s1, g0, g1, y0, y1, vs0, vs1, vg0, vg1, (.slice aY y0.length cY), vy1, o0, o1, os0, os1, og0, og1, oy0, oy1, SP.out, BO.out, by have := HY.out; omega⟩⟩⟩
              case measure => omega
            · go_upto_region 19 with (fail)
              have h10 := i64_mask (P / 16) 10 (by omega)
              obtain ⟨kk, hkk, hlt⟩ : ∃ kk : Nat, (bits BinOp.and IntKind.i64 (P / 16) 1023).tmod nY = kk ∧ kk < nY := by
                rw [show (1023 : Int) = ((2 ^ 10 - 1 : Nat) : Int) from rfl, h10, Int.tmod_eq_emod_of_nonneg (by omega)]
                have h1 := Int.emod_nonneg (P / 16 % ((2 ^ 10 : Nat) : Int)) (b := (nY : Int)) (by omega)
                have h2 := Int.emod_lt_of_pos (P / 16 % ((2 ^ 10 : Nat) : Int)) (b := (nY : Int)) (by omega)
                exact ⟨((P / 16 % ((2 ^ 10 : Nat) : Int)) % (nY : Int)).toNat, by omega, by omega⟩
              rw [hkk]
              clear hkk h10
              obtain ⟨x, hx⟩ : ∃ x, y0[kk]? = some x := ⟨_, List.getElem?_eq_getElem (by have := HNY.out; omega)⟩
              obtain ⟨qY, rfl, c0_, c1_, c2_⟩ := ((SP.out.get 10 rfl : Own _ _ _ _ _ _ _).rd (items_oneCell _)).item hx
              have HX : Hid (x ∈ y0) := List.mem_of_getElem? hx
              have hxs : x.body.size ≤ 3 := BO.out.small HX.out
              have SPX := Lib.hid (SP.out.cons (t := blkT wr.heap.size 30 #[.int .i64 x.ns, .int .i64 x.nr, .string x.body]) ((Upd.refl _ _).alloc _) (Blk.new _ _ _) (by simp [blkT]))
              have hkd := HKD.out
              have lY := (SP.out.get 5 rfl : Blk _ _ _ _).lt
              clear hx SP
              go_upto_region 22 with (fail)
              refine gen_world (fun V => Sep w V (blkT wr.heap.size 30 #[.int .i64 x.ns, .int .i64 x.nr, .string x.body] :: brL b0 b1 BE BS BG BY c0 c1 s0 s1 g0 g1 y0 y1 vs0 vs1 vg0 vg1 (.slice (some qY) y0.length cY) vy1 o0 o1 os0 os1 og0 og1 oy0 oy1)) SPX.out ?_
              intro W1 SP1
              clear SPX
              generalize wr.heap.size = BX at *
              have SP2 := Lib.hid SP1
              clear SP1
              clear c0_ c1_ c2_ lY
              by_cases tl : bits BinOp.and IntKind.i64 (P / 16384) 3 = 0
              · go_wp2_with fail
                go_meet
                case rel => exact ⟨at_, rfl, by omega, ⟨⟨c0, c1, s0, s1, g0, g1, y0, y1, vs0, vs1, vg0, vg1, (.slice (some qY) y0.length cY), vy1, o0, o1, os0, os1, og0, og1, oy0, oy1, SP2.out.drop, BO.out, by have := HY.out; omega⟩⟩⟩
              · have tl2 : ((bits BinOp.and IntKind.i64 (P / 16384) 3) != 0) = true := by simpa using tl
                go_upto_region 23 with (fail)
                obtain ⟨aG, cG, hvG, -, hcG⟩ := (SP2.out.get 10 rfl : Own _ _ _ _ _ _ _).shape
                subst hvG
                simp only [maxLen] at hcG
                have hgl : g1.length ≤ 60 := by have h1 := BO.out.good; have h2 := BO.out.few; have h3 := BO.out.n60; omega
                have hw1 : IntKind.i64.wrap 1 = 1 := by rfl
                clear tl tl2 hkd
                refine wp_region_chain [some (.int .i64 0), some (.int .i64 1), some (.int .i64 0), some (.int .i64 1), some (.pointer (some ⟨BG, 1, none⟩)), some (.slice aG g1.length cG), some (.int .i64 0), some (.int .i64 1), some (.pointer (some ⟨BE, 1, none⟩)), some (.pointer (some ⟨b1, 0, none⟩)), some (.agg #[.int .i64 x.ns, .int .i64 x.nr, .string x.body]), none, none, some (.pointer (some ⟨BG, 1, none⟩)), none] [11,12,14] (takeA w (blkT BX 30 #[.int .i64 x.ns, .int .i64 x.nr, .string x.body] :: brL b0 b1 BE BS BG BY c0 c1 s0 s1 g0 g1 y0 y1 vs0 vs1 vg0 (.slice aG g1.length cG) (.slice (some qY) y0.length cY) vy1 o0 o1 os0 os1 og0 og1 oy0 oy1) 1 b1 BG c1 x g1 o1 (fun u => #[vg0, u])) [(0, 2), (0, 2), (0, 1), (0, 1), (0, 1), (0, 1), (0, 0), (0, 0), (0, 0), (0, 0), (0, 0), (0, 0), (1, 1), (2, 2), (2, 2)] (by kernel_rfl) (by kernel_rfl) (by kernel_rfl) (by kernel_rfl) (by kernel_rfl) (by kernel_rfl) (SP2.out.keep (Upd.refl _ _).drew) ?_ ?_
                · refine StepsC.cons ?_ (StepsC.cons ?_ (StepsC.cons ?_ (StepsC.cons ?_ (StepsC.cons ?_ (StepsC.cons ?_ (StepsC.cons ?_ (StepsC.cons ?_ (StepsC.cons ?_ (StepsC.cons ?_ (StepsC.cons ?_ (StepsC.cons ?_ (StepsC.cons ?_ (StepsC.cons ?_ (StepsC.cons ?_ StepsC.nil))))))))))))))
                  · refine chain_is _ rfl ⟨_, rfl⟩ (by kernel_rfl) rfl ?_
                    intro a W k l0 h0 A0 hF hD
                    have e20 : a.tmps[20]?.getD undef = _ := (ev a 20).symm.trans (hF 20 (by kernel_rfl))
                    clear hF hD
                    go_simp
                  · refine chain_is _ rfl ⟨_, rfl⟩ (by kernel_rfl) rfl ?_
                    intro a W k l0 h0 A0 hF hD
                    have e141 : a.tmps[141]?.getD undef = .int .i64 0 := (ev a 141).symm.trans (hD _ (Array.mem_of_getElem? (i := 0) rfl) rfl)
                    clear hF hD
                    go_simp
                  · refine chain_is _ rfl ⟨_, rfl⟩ (by kernel_rfl) rfl ?_
                    intro a W k l0 h0 A0 hF hD
                    have e20 : a.tmps[20]?.getD undef = _ := (ev a 20).symm.trans (hF 20 (by kernel_rfl))
                    clear hF hD
                    go_simp
                  · refine chain_is _ rfl ⟨_, rfl⟩ (by kernel_rfl) rfl ?_
                    intro a W k l0 h0 A0 hF hD
                    have e143 : a.tmps[143]?.getD undef = .int .i64 0 := (ev a 143).symm.trans (hD _ (Array.mem_of_getElem? (i := 0) rfl) rfl)
                    clear hF hD
                    go_simp
                  · refine chain_is _ rfl ⟨_, rfl⟩ (by kernel_rfl) rfl ?_
                    intro a W k l0 h0 A0 hF hD
                    have e144 : a.tmps[144]?.getD undef = .int .i64 1 := (ev a 144).symm.trans (hD _ (Array.mem_of_getElem? (i := 0) rfl) rfl)
                    have e15 : a.tmps[15]?.getD undef = _ := (ev a 15).symm.trans (hF 15 (by kernel_rfl))
                    clear hF hD
                    go_simp
                  · refine chain_is _ rfl ⟨_, rfl⟩ (by kernel_rfl) rfl ?_
                    intro a W k l0 h0 A0 hF hD
                    have e145 : a.tmps[145]?.getD undef = .pointer (some ⟨BG, 1, none⟩) := (ev a 145).symm.trans (hD _ (Array.mem_of_getElem? (i := 0) rfl) rfl)
                    clear hF hD
                    have cB := (takeA_BG (rfl : _ = some (blkT BG 38 #[vg0, .slice aG g1.length cG])) (by decide) (by simp only [List.length_map, List.length_take]; omega) A0).cell 1
                    simp only [List.size_toArray, List.length_cons, List.length_nil, List.getElem?_toArray, List.getElem?_cons_zero, List.getElem?_cons_succ] at cB
                    go_simp
                  · refine chain_is _ rfl ⟨_, rfl⟩ (by kernel_rfl) rfl ?_
                    intro a W k l0 h0 A0 hF hD
                    have k0 : k = 0 := Nat.le_antisymm h0 l0
                    subst k0
                    clear l0 h0
                    have e20 : a.tmps[20]?.getD undef = _ := (ev a 20).symm.trans (hF 20 (by kernel_rfl))
                    clear hF hD
                    go_simp
                  · refine chain_is _ rfl ⟨_, rfl⟩ (by kernel_rfl) rfl ?_
                    intro a W k l0 h0 A0 hF hD
                    have k0 : k = 0 := Nat.le_antisymm h0 l0
                    subst k0
                    clear l0 h0
                    have e147 : a.tmps[147]?.getD undef = .int .i64 0 := (ev a 147).symm.trans (hD _ (Array.mem_of_getElem? (i := 0) rfl) rfl)
                    clear hF hD
                    go_simp
                  · refine chain_is _ rfl ⟨_, rfl⟩ (by kernel_rfl) rfl ?_
                    intro a W k l0 h0 A0 hF hD
                    have k0 : k = 0 := Nat.le_antisymm h0 l0
                    subst k0
                    clear l0 h0
                    have e148 : a.tmps[148]?.getD undef = .int .i64 1 := (ev a 148).symm.trans (hD _ (Array.mem_of_getElem? (i := 0) rfl) rfl)
                    have e13 : a.tmps[13]?.getD undef = _ := (ev a 13).symm.trans (hF 13 (by kernel_rfl))
                    clear hF hD
                    go_simp
                  · refine chain_is _ rfl ⟨_, rfl⟩ (by kernel_rfl) rfl ?_
                    intro a W k l0 h0 A0 hF hD
                    have k0 : k = 0 := Nat.le_antisymm h0 l0
                    subst k0
                    clear l0 h0
                    have e149 : a.tmps[149]?.getD undef = .pointer (some ⟨BE, 1, none⟩) := (ev a 149).symm.trans (hD _ (Array.mem_of_getElem? (i := 0) rfl) rfl)
                    clear hF hD
                    have A1 : Sep _ _ _ := A0
                    have cB := (A1.get 3 rfl : Blk _ _ _ _).cell 1
                    simp only [List.size_toArray, List.length_cons, List.length_nil, List.getElem?_toArray, List.getElem?_cons_zero, List.getElem?_cons_succ] at cB
                    go_simp
                  · refine chain_is _ rfl ⟨_, rfl⟩ (by kernel_rfl) rfl ?_
                    intro a W k l0 h0 A0 hF hD
                    have k0 : k = 0 := Nat.le_antisymm h0 l0
                    subst k0
                    clear l0 h0
                    have e23 : a.tmps[23]?.getD undef = _ := (ev a 23).symm.trans (hF 23 (by kernel_rfl))
                    clear hF hD
                    have A1 : Sep _ _ _ := A0
                    have cB0 := (A1.get 0 rfl : Blk _ _ _ _).cell 0
                    have cB1 := (A1.get 0 rfl : Blk _ _ _ _).cell 1
                    have cB2 := (A1.get 0 rfl : Blk _ _ _ _).cell 2
                    simp only [List.size_toArray, List.length_cons, List.length_nil, List.getElem?_toArray, List.getElem?_cons_zero, List.getElem?_cons_succ] at cB0 cB1 cB2
                    go_simp
                  · refine chain_call rfl ⟨_, rfl⟩ (by kernel_rfl) ?_
                    intro a W k l0 h0 A0 hF hD
                    have k0 : k = 0 := Nat.le_antisymm h0 l0
                    subst k0
                    clear l0 h0
                    have e150 : a.tmps[150]?.getD undef = .pointer (some ⟨b1, 0, none⟩) := (ev a 150).symm.trans (hD _ (Array.mem_of_getElem? (i := 0) rfl) rfl)
                    have e151 : a.tmps[151]?.getD undef = .agg #[.int .i64 x.ns, .int .i64 x.nr, .string x.body] := (ev a 151).symm.trans (hD _ (Array.mem_of_getElem? (i := 1) rfl) rfl)
                    clear hF hD
                    have A1 : Sep _ _ _ := A0
                    refine ⟨_, _, by (go_simp; first | done | rfl | exact ⟨rfl, rfl⟩), ?_⟩
                    refine (take_at (A1.get 2 rfl) x.ns x.nr x.body (by omega)).mono ?_
                    rintro e w3 ⟨⟨v3, p3, rfl, q3, r3⟩, h3, u3⟩
                    exact ⟨_, rfl, trivial, p3, A1.set_cons 2 rfl u3 (fun x hx => .inl hx) (t' := ctlT _ _ o1) h3 (fun x hx => .inl hx) (s := ownT 9 1 v3 _ _ p3) q3 r3 (fun k hk hk2 => by have h1 := r3 k hk; have h2 := (A1.get 2 rfl : CtlAt _ _ _ _).lt k hk2; omega)⟩
                  · refine chain_run rfl ⟨_, rfl⟩ (by kernel_rfl) ?_
                    intro a W k l0 h0 A0 hF hD
                    have k0 : k = 1 := Nat.le_antisymm h0 l0
                    subst k0
                    clear l0 h0
                    have e146 : a.tmps[146]?.getD undef = .slice aG g1.length cG := (ev a 146).symm.trans (hD _ (Array.mem_of_getElem? (i := 0) rfl) rfl)
                    clear hF hD
                    obtain ⟨p3, A1⟩ := A0
                    have HR := (A1.get 0 rfl : Own _ _ _ _ _ _ _).texts
                    have A2 := A1.drop
                    have HO := (A2.get 10 rfl : Own _ _ _ _ _ _ _)
                    have hT := C.take_len2 c1 x.ns x.nr x.body
                    obtain ⟨ao1, cap1, w5, own1, hrun, ho1, hin1, hu5⟩ := run_append_Rd (P := Try.prog) W 27 27 9 i0 _ 1 16 Try.underlying27 hi0 hz0 hz1 hz2 rfl (by decide) _ g1.length _ _ HO _ _ _ HR (by simp only [maxLen]; omega) (by omega)
                    exact ⟨_, w5, exec_append rfl ((ev a 146).trans e146) rfl hrun, trivial, own1, A2.set 10 rfl hu5 (fun x hx => .inl hx) (t' := ownT 9 1 _ (g1 ++ (c1.take x.ns x.nr x.body).2).length (strs (g1 ++ (c1.take x.ns x.nr x.body).2)) own1) (by simpa [strs, ownT] using ho1) hin1⟩
                  · refine chain_is _ rfl ⟨_, rfl⟩ (by kernel_rfl) rfl ?_
                    intro a W k l0 h0 A0 hF hD
                    have k0 : k = 2 := Nat.le_antisymm h0 l0
                    subst k0
                    clear l0 h0
                    have e142 : a.tmps[142]?.getD undef = .int .i64 1 := (ev a 142).symm.trans (hD _ (Array.mem_of_getElem? (i := 0) rfl) rfl)
                    have e15 : a.tmps[15]?.getD undef = _ := (ev a 15).symm.trans (hF 15 (by kernel_rfl))
                    clear hF hD
                    go_simp
                  · refine chain_set rfl rfl (by kernel_rfl) trivial ?_
                    intro a W k l0 h0 A0 hF hD
                    have k0 : k = 2 := Nat.le_antisymm h0 l0
                    subst k0
                    clear l0 h0
                    have e154 : a.tmps[154]?.getD undef = .pointer (some ⟨BG, 1, none⟩) := (ev a 154).symm.trans (hD _ (Array.mem_of_getElem? (i := 0) rfl) rfl)
                    clear hF hD
                    obtain ⟨own1, A1⟩ := A0
                    obtain ⟨ao1, cap1, hv, -, -⟩ := (A1.get 10 rfl : Own _ _ _ _ _ _ _).shape
                    rw [List.length_append] at hv
                    have e153 : a.tmps[153]?.getD undef = _ := (ev a 153).symm.trans hv
                    have cB := (A1.get 5 rfl : Blk _ _ _ _).cell 1
                    have fB := (A1.get 5 rfl : Blk _ _ _ _).frozen 1
                    simp only [List.size_toArray, List.length_cons, List.length_nil, List.getElem?_toArray, List.getElem?_cons_zero, List.getElem?_cons_succ] at cB
                    have hb := (A1.get 5 rfl : Blk _ _ _ _).set_ 1 (Value.slice ao1 (g1.length + (c1.take x.ns x.nr x.body).2.length) cap1)
                    refine ⟨_, by (go_simp; first | done | rfl | exact ⟨rfl, rfl⟩), own1, A1.set 5 rfl ((Upd.refl [BG] _).setCell _ (.inl (by simp))) (fun x hx => .inl hx) (t' := blkT BG 38 _) ?_ (fun x hx => .inl hx)⟩
                    rw [show leftAt _ a 12 = Value.slice ao1 (g1.length + (c1.take x.ns x.nr x.body).2.length) cap1 from hv]
                    exact hb
                intro vals W hv hA
                have v0 : vals 0 = .int .i64 0 := hv 0 (by decide)
                have v1 : vals 1 = .int .i64 1 := hv 1 (by decide)
                have v2 : vals 2 = .int .i64 0 := hv 2 (by decide)
                have v3 : vals 3 = .int .i64 1 := hv 3 (by decide)
                have v4 : vals 4 = .pointer (some ⟨BG, 1, none⟩) := hv 4 (by decide)
                have v5 : vals 5 = .slice aG g1.length cG := hv 5 (by decide)
                have v6 : vals 6 = .int .i64 0 := hv 6 (by decide)
                have v7 : vals 7 = .int .i64 1 := hv 7 (by decide)
                have v8 : vals 8 = .pointer (some ⟨BE, 1, none⟩) := hv 8 (by decide)
                have v9 : vals 9 = .pointer (some ⟨b1, 0, none⟩) := hv 9 (by decide)
                have v10 : vals 10 = .agg #[.int .i64 x.ns, .int .i64 x.nr, .string x.body] := hv 10 (by decide)
                have v13 : vals 13 = .pointer (some ⟨BG, 1, none⟩) := hv 13 (by decide)
                clear hv
                obtain ⟨own1, A1⟩ := hA
                have SP3 := Lib.hid A1
                clear A1
                generalize vals 12 = v12 at *
                simp only [putAll, Act.put, Nat.zero_add, Nat.reduceAdd, v0, v1, v2, v3, v4, v5, v6, v7, v8, v9, v10, v13, List.setIfInBounds_toArray, List.set_cons_zero, List.set_cons_succ]
                clear v0 v1 v2 v3 v4 v5 v6 v7 v8 v9 v10 v13
                go_wp2_with fail
                go_meet
                case rel =>
                  exact ⟨at_, rfl, by omega, ⟨⟨c0, (c1.take x.ns x.nr x.body).1, s0, s1, g0, (g1 ++ (c1.take x.ns x.nr x.body).2), y0, y1, vs0, vs1, vg0, v12, (.slice (some qY) y0.length cY), vy1, o0, o1, os0, os1, og0, own1, oy0, oy1, SP3.out.drop, (BO.out.take HX.out), by have := HY.out; omega⟩⟩⟩
        · rcases hkd8 with rfl | rfl | rfl | rfl | rfl | rfl | rfl | rfl
          · as_aux_lemma =>
            obtain ⟨c0, c1, s0, s1, g0, g1, y0, y1, vs0, vs1, vg0, vg1, vy0, vy1, o0, o1, os0, os1, og0, og1, oy0, oy1, sp, bo, hy⟩ := HST.out.ex
            have HU := Lib.hid sp.upd
            by_cases tat : at_ < n
            · obtain ⟨qs, M, rfl, hM⟩ := HS.out.upd HU.out at_ tat
              have hcv := str3 (P := Try.prog) (dst := 9) Try.underlying43 Try.underlying5 Try.underlying9 (Blk.new wr 5 #[.int .u8 109, .int .u8 at_, .int .u8 (M % 256)])
              obtain ⟨m, hm⟩ : ∃ m, m = strOfNums [109, (at_ : Int), M % 256] := ⟨_, rfl⟩
              have HM3 : Hid (m.size = 3) := by rw [hm, strOfNums_size]; rfl
              rw [← hm] at hcv
              clear hm
              have SP := Lib.hid (sp.keep ((Upd.refl [] wr).alloc (.cells #[.int .u8 109, .int .u8 at_, .int .u8 (M % 256)] 5)))
              have BO := Lib.hid bo
              have cE := (sp.get 2 rfl : Blk _ _ _ _).cell 1
              simp only [List.size_toArray, List.length_cons, List.length_nil, List.getElem?_toArray, List.getElem?_cons_zero, List.getElem?_cons_succ] at cE
              have lE := (sp.get 2 rfl : Blk _ _ _ _).lt
              have hsl := BO.out.few
              have h60 := BO.out.n60
              clear sp bo
              go_wp2_with fail
              refine (send_at (SP.out.get 1 rfl) m).mono ?_
              rintro e w3 ⟨rfl, ⟨oa2, h3, g3⟩, u3⟩
              have SP2 := Lib.hid (SP.out.set 1 rfl u3 (fun x hx => .inl hx) (t' := ctlT _ _ oa2) h3 g3)
              clear h3 g3 u3 cE lE hM hcv
              by_cases t0 : (c1.send m).2 = 0
              · have BO2 := Lib.hid ((BO.out.swap.send (by omega) HM3.out t0).swap)
                rw [t0]
                clear t0
                obtain ⟨aS, cS, rfl, -, hcS⟩ := (SP2.out.get 7 rfl : Own _ _ _ _ _ _ _).shape
                simp only [maxLen] at hcS
                have cB := (SP2.out.get 3 rfl : Blk _ _ _ _).cell 1
                simp only [List.size_toArray, List.length_cons, List.length_nil, List.getElem?_toArray, List.getElem?_cons_zero, List.getElem?_cons_succ] at cB
                have lB := (SP2.out.get 3 rfl : Blk _ _ _ _).lt
                have SP3 := Lib.hid (SP2.out.keep ((Upd.refl [] w3).alloc (.cells #[.string m] 9)))
                have HO := Lib.hid (SP3.out.get 7 rfl : Own _ _ _ _ _ _ _)
                have HR := Lib.hid (Own.texts (l := [m]) (Own.one_new w3 9 (.string m)))
                go_wp2_with (first
                  | (at_builtin; refine wpList_append_Rd _ rfl (.tmp 180) (.tmp 182) 27 rfl 9 i0 _ 1 16 Try.underlying27 hi0 hz0 hz1 hz2 rfl (by decide) _ s1.length _ _ (by simp [Act.eval]) HO.out _ 1 _ (by simp [Act.eval]) HR.out (by simp only [maxLen]; omega) (by omega) ?_; intro ao1 cap1 w5 own1 ho1 hin1 hu5; have SP4 := Lib.hid (SP3.out.set 7 rfl hu5 (fun x hx => .inl hx) (t' := ownT 9 1 _ (s1 ++ [m]).length (strs (s1 ++ [m])) own1) (by simpa [strs, ownT] using ho1) hin1); clear ho1 hin1 hu5; have fB := (SP4.out.get 3 rfl : Blk _ _ _ _).frozen 1; have cB2 := (SP4.out.get 3 rfl : Blk _ _ _ _).cell 1; have lB2 := (SP4.out.get 3 rfl : Blk _ _ _ _).lt; simp only [List.size_toArray, List.length_cons, List.length_nil, List.getElem?_toArray, List.getElem?_cons_zero, List.getElem?_cons_succ] at cB2))
                go_meet
                case rel =>
                  obtain ⟨v5, hv5⟩ : ∃ v, v = Value.slice ao1 (s1.length + 1) cap1 := ⟨_, rfl⟩
                  rw [← hv5] at SP4
                  rw [← hv5]
                  have hb := (SP4.out.get 3 rfl : Blk _ _ _ _).set_ 1 v5
                  have SP5 := SP4.out.set 3 rfl (t' := blkT BS 38 #[vs0, v5]) (F := [BS]) ((Upd.refl _ _).setCell v5 (.inl (by simp))) (fun x hx => .inl hx) hb (fun x hx => .inl hx)
                  exact ⟨at_ + 1, by go_num, by omega, ⟨⟨c0, (c1.send m).1, s0, s1 ++ [m], g0, g1, y0, y1, vs0, v5, vg0, vg1, vy0, vy1, o0, oa2, os0, own1, og0, og1, oy0, oy1, SP5, BO2.out, by omega⟩⟩⟩
              · have BO2 := Lib.hid ((BO.out.swap.unsent (by omega) t0).swap)
                go_wp2_with fail
                go_meet
                case rel => exact ⟨at_ + 1, by go_num, by omega, ⟨⟨c0, (c1.send m).1, s0, s1, g0, g1, y0, y1, vs0, vs1, vg0, vg1, vy0, vy1, o0, oa2, os0, os1, og0, og1, oy0, oy1, SP2.out, BO2.out, by omega⟩⟩⟩
            · have SP := Lib.hid sp
              have BO := Lib.hid bo
              clear sp bo
              go_wp2_with fail
              go_meet
              case rel => exact ⟨at_, rfl, by omega, ⟨⟨c0, c1, s0, s1, g0, g1, y0, y1, vs0, vs1, vg0, vg1, vy0, vy1, o0, o1, os0, os1, og0, og1, oy0, oy1, SP.out, BO.out, by omega⟩⟩⟩
          · as_aux_lemma =>
            obtain ⟨c0, c1, s0, s1, g0, g1, y0, y1, vs0, vs1, vg0, vg1, vy0, vy1, o0, o1, os0, os1, og0, og1, oy0, oy1, sp, bo, hy⟩ := HST.out.ex
            have HU := Lib.hid sp.upd
            by_cases tat : at_ < n
            · obtain ⟨qs, M, rfl, hM⟩ := HS.out.upd HU.out at_ tat
              have hcv := str3 (P := Try.prog) (dst := 9) Try.underlying43 Try.underlying5 Try.underlying9 (Blk.new wr 5 #[.int .u8 109, .int .u8 at_, .int .u8 (M % 256)])
              obtain ⟨m, hm⟩ : ∃ m, m = strOfNums [109, (at_ : Int), M % 256] := ⟨_, rfl⟩
              have HM3 : Hid (m.size = 3) := by rw [hm, strOfNums_size]; rfl
              rw [← hm] at hcv
              clear hm
              have SP := Lib.hid (sp.keep ((Upd.refl [] wr).alloc (.cells #[.int .u8 109, .int .u8 at_, .int .u8 (M % 256)] 5)))
              have BO := Lib.hid bo
              have cE := (sp.get 2 rfl : Blk _ _ _ _).cell 1
              simp only [List.size_toArray, List.length_cons, List.length_nil, List.getElem?_toArray, List.getElem?_cons_zero, List.getElem?_cons_succ] at cE
              have lE := (sp.get 2 rfl : Blk _ _ _ _).lt
              have hsl := BO.out.few
              have h60 := BO.out.n60
              clear sp bo
              go_wp2_with fail
              refine (send_at (SP.out.get 1 rfl) m).mono ?_
              rintro e w3 ⟨rfl, ⟨oa2, h3, g3⟩, u3⟩
              have SP2 := Lib.hid (SP.out.set 1 rfl u3 (fun x hx => .inl hx) (t' := ctlT _ _ oa2) h3 g3)
              clear h3 g3 u3 cE lE hM hcv
              by_cases t0 : (c1.send m).2 = 0
              · have BO2 := Lib.hid ((BO.out.swap.send (by omega) HM3.out t0).swap)
                rw [t0]
                clear t0
                obtain ⟨aS, cS, rfl, -, hcS⟩ := (SP2.out.get 7 rfl : Own _ _ _ _ _ _ _).shape
                simp only [maxLen] at hcS
                have cB := (SP2.out.get 3 rfl : Blk _ _ _ _).cell 1
                simp only [List.size_toArray, List.length_cons, List.length_nil, List.getElem?_toArray, List.getElem?_cons_zero, List.getElem?_cons_succ] at cB
                have lB := (SP2.out.get 3 rfl : Blk _ _ _ _).lt
                have SP3 := Lib.hid (SP2.out.keep ((Upd.refl [] w3).alloc (.cells #[.string m] 9)))
                have HO := Lib.hid (SP3.out.get 7 rfl : Own _ _ _ _ _ _ _)
                have HR := Lib.hid (Own.texts (l := [m]) (Own.one_new w3 9 (.string m)))
                go_wp2_with (first
                  | (at_builtin; refine wpList_append_Rd _ rfl (.tmp 180) (.tmp 182) 27 rfl 9 i0 _ 1 16 Try.underlying27 hi0 hz0 hz1 hz2 rfl (by decide) _ s1.length _ _ (by simp [Act.eval]) HO.out _ 1 _ (by simp [Act.eval]) HR.out (by simp only [maxLen]; omega) (by omega) ?_; intro ao1 cap1 w5 own1 ho1 hin1 hu5; have SP4 := Lib.hid (SP3.out.set 7 rfl hu5 (fun x hx => .inl hx) (t' := ownT 9 1 _ (s1 ++ [m]).length (strs (s1 ++ [m])) own1) (by simpa [strs, ownT] using ho1) hin1); clear ho1 hin1 hu5; have fB := (SP4.out.get 3 rfl : Blk _ _ _ _).frozen 1; have cB2 := (SP4.out.get 3 rfl : Blk _ _ _ _).cell 1; have lB2 := (SP4.out.get 3 rfl : Blk _ _ _ _).lt; simp only [List.size_toArray, List.length_cons, List.length_nil, List.getElem?_toArray, List.getElem?_cons_zero, List.getElem?_cons_succ] at cB2))
                go_meet
                case rel =>
                  obtain ⟨v5, hv5⟩ : ∃ v, v = Value.slice ao1 (s1.length + 1) cap1 := ⟨_, rfl⟩
                  rw [← hv5] at SP4
                  rw [← hv5]
                  have hb := (SP4.out.get 3 rfl : Blk _ _ _ _).set_ 1 v5
                  have SP5 := SP4.out.set 3 rfl (t' := blkT BS 38 #[vs0, v5]) (F := [BS]) ((Upd.refl _ _).setCell v5 (.inl (by simp))) (fun x hx => .inl hx) hb (fun x hx => .inl hx)
                  exact ⟨at_ + 1, by go_num, by omega, ⟨⟨c0, (c1.send m).1, s0, s1 ++ [m], g0, g1, y0, y1, vs0, v5, vg0, vg1, vy0, vy1, o0, oa2, os0, own1, og0, og1, oy0, oy1, SP5, BO2.out, by omega⟩⟩⟩
              · have BO2 := Lib.hid ((BO.out.swap.unsent (by omega) t0).swap)
                go_wp2_with fail
                go_meet
                case rel => exact ⟨at_ + 1, by go_num, by omega, ⟨⟨c0, (c1.send m).1, s0, s1, g0, g1, y0, y1, vs0, vs1, vg0, vg1, vy0, vy1, o0, oa2, os0, os1, og0, og1, oy0, oy1, SP2.out, BO2.out, by omega⟩⟩⟩
            · have SP := Lib.hid sp
              have BO := Lib.hid bo
              clear sp bo
              go_wp2_with fail
              go_meet
              case rel => exact ⟨at_, rfl, by omega, ⟨⟨c0, c1, s0, s1, g0, g1, y0, y1, vs0, vs1, vg0, vg1, vy0, vy1, o0, o1, os0, os1, og0, og1, oy0, oy1, SP.out, BO.out, by omega⟩⟩⟩
          · as_aux_lemma =>
            obtain ⟨c0, c1, s0, s1, g0, g1, y0, y1, vs0, vs1, vg0, vg1, vy0, vy1, o0, o1, os0, os1, og0, og1, oy0, oy1, sp, bo, hy⟩ := HST.out.ex
            have SP := Lib.hid sp
            have BO := Lib.hid bo
            have cE := (sp.get 2 rfl : Blk _ _ _ _).cell 1
            simp only [List.size_toArray, List.length_cons, List.length_nil, List.getElem?_toArray, List.getElem?_cons_zero, List.getElem?_cons_succ] at cE
            clear sp bo
            go_wp2_with fail
            refine (tick_at (SP.out.get 1 rfl)).mono ?_
            rintro e w3 ⟨rfl, h3, u3⟩
            have SP2 := Lib.hid (SP.out.set 1 rfl u3 (fun x hx => .inl hx) (t' := ctlT _ _ o1) h3 (fun x hx => .inl hx))
            clear h3 u3 cE
            go_wp2_with fail
            go_meet
            case rel => exact ⟨at_, rfl, by omega, ⟨⟨c0, c1.tick, s0, s1, g0, g1, y0, y1, vs0, vs1, vg0, vg1, vy0, vy1, o0, o1, os0, os1, og0, og1, oy0, oy1, SP2.out, BO.out.swap.tick.swap, by omega⟩⟩⟩
          · as_aux_lemma =>
            obtain ⟨c0, c1, s0, s1, g0, g1, y0, y1, vs0, vs1, vg0, vg1, vy0, vy1, o0, o1, os0, os1, og0, og1, oy0, oy1, sp, bo, hy⟩ := HST.out.ex
            obtain ⟨aY, cY, hvY, -, hcY⟩ := (sp.get 11 rfl : Own _ _ _ _ _ _ _).shape
            subst hvY
            simp only [maxLen] at hcY
            obtain ⟨nY, hnY⟩ : ∃ n, n = y1.length := ⟨_, rfl⟩
            have HNY := Lib.hid hnY
            have SP := Lib.hid sp
            have BO := Lib.hid bo
            have hxl : c1.out.2.length ≤ 42 := C.out_len2 (sp.get 1 rfl : CtlAt _ _ _ _).ok
            clear sp bo hnY
            go_upto_region 35 with (fail)
            refine wp_region_chain [some (.int .i64 1), some (.int .i64 1), some (.pointer (some ⟨BY, 1, none⟩)), some (.pointer (some ⟨BY, 1, none⟩)), some (.slice aY y1.length cY), some (.int .i64 1), some (.pointer (some ⟨BE, 1, none⟩)), some (.pointer (some ⟨b1, 0, none⟩)), none, none, some (.pointer (some ⟨BY, 1, none⟩)), some (.pointer (some ⟨BY, 1, none⟩)), none] [8,9,12] (outA w (brL b0 b1 BE BS BG BY c0 c1 s0 s1 g0 g1 y0 y1 vs0 vs1 vg0 vg1 vy0 (.slice aY y1.length cY) o0 o1 os0 os1 og0 og1 oy0 oy1) 1 b1 BY c1 y1 (fun u => #[vy0, u])) [(0, 2), (0, 1), (0, 1), (0, 1), (0, 1), (0, 0), (0, 0), (0, 0), (0, 0), (1, 1), (2, 2), (2, 2), (2, 2)] (by kernel_rfl) (by kernel_rfl) (by kernel_rfl) (by kernel_rfl) (by kernel_rfl) (by kernel_rfl) (SP.out.keep (Upd.refl _ _).drew) ?_ ?_
            · refine StepsC.cons ?_ (StepsC.cons ?_ (StepsC.cons ?_ (StepsC.cons ?_ (StepsC.cons ?_ (StepsC.cons ?_ (StepsC.cons ?_ (StepsC.cons ?_ (StepsC.cons ?_ (StepsC.cons ?_ (StepsC.cons ?_ (StepsC.cons ?_ (StepsC.cons ?_ StepsC.nil))))))))))))
              · refine chain_is _ rfl ⟨_, rfl⟩ (by kernel_rfl) rfl ?_
                intro a W k l0 h0 A0 hF hD
                have e20 : a.tmps[20]?.getD undef = _ := (ev a 20).symm.trans (hF 20 (by kernel_rfl))
                clear hF hD
                go_simp
              · refine chain_is _ rfl ⟨_, rfl⟩ (by kernel_rfl) rfl ?_
                intro a W k l0 h0 A0 hF hD
                have e20 : a.tmps[20]?.getD undef = _ := (ev a 20).symm.trans (hF 20 (by kernel_rfl))
                clear hF hD
                go_simp
              · refine chain_is _ rfl ⟨_, rfl⟩ (by kernel_rfl) rfl ?_
                intro a W k l0 h0 A0 hF hD
                have e197 : a.tmps[197]?.getD undef = .int .i64 1 := (ev a 197).symm.trans (hD _ (Array.mem_of_getElem? (i := 0) rfl) rfl)
                have e16 : a.tmps[16]?.getD undef = _ := (ev a 16).symm.trans (hF 16 (by kernel_rfl))
                clear hF hD
                go_simp
              · refine chain_is _ rfl ⟨_, rfl⟩ (by kernel_rfl) rfl ?_
                intro a W k l0 h0 A0 hF hD
                have e198 : a.tmps[198]?.getD undef = .pointer (some ⟨BY, 1, none⟩) := (ev a 198).symm.trans (hD _ (Array.mem_of_getElem? (i := 0) rfl) rfl)
                clear hF hD
                go_simp
              · refine chain_is _ rfl ⟨_, rfl⟩ (by kernel_rfl) rfl ?_
                intro a W k l0 h0 A0 hF hD
                have e199 : a.tmps[199]?.getD undef = .pointer (some ⟨BY, 1, none⟩) := (ev a 199).symm.trans (hD _ (Array.mem_of_getElem? (i := 0) rfl) rfl)
                clear hF hD
                have cB := (outA_BY (rfl : _ = some (blkT BY 41 #[vy0, .slice aY y1.length cY])) (by decide) (by simp only [List.length_map, List.length_take]; omega) A0).cell 1
                simp only [List.size_toArray, List.length_cons, List.length_nil, List.getElem?_toArray, List.getElem?_cons_zero, List.getElem?_cons_succ] at cB
                go_simp
              · refine chain_is _ rfl ⟨_, rfl⟩ (by kernel_rfl) rfl ?_
                intro a W k l0 h0 A0 hF hD
                have k0 : k = 0 := Nat.le_antisymm h0 l0
                subst k0
                clear l0 h0
                have e20 : a.tmps[20]?.getD undef = _ := (ev a 20).symm.trans (hF 20 (by kernel_rfl))
                clear hF hD
                go_simp
              · refine chain_is _ rfl ⟨_, rfl⟩ (by kernel_rfl) rfl ?_
                intro a W k l0 h0 A0 hF hD
                have k0 : k = 0 := Nat.le_antisymm h0 l0
                subst k0
                clear l0 h0
                have e201 : a.tmps[201]?.getD undef = .int .i64 1 := (ev a 201).symm.trans (hD _ (Array.mem_of_getElem? (i := 0) rfl) rfl)
                have e13 : a.tmps[13]?.getD undef = _ := (ev a 13).symm.trans (hF 13 (by kernel_rfl))
                clear hF hD
                go_simp
              · refine chain_is _ rfl ⟨_, rfl⟩ (by kernel_rfl) rfl ?_
                intro a W k l0 h0 A0 hF hD
                have k0 : k = 0 := Nat.le_antisymm h0 l0
                subst k0
                clear l0 h0
                have e202 : a.tmps[202]?.getD undef = .pointer (some ⟨BE, 1, none⟩) := (ev a 202).symm.trans (hD _ (Array.mem_of_getElem? (i := 0) rfl) rfl)
                clear hF hD
                have A1 : Sep _ _ _ := A0
                have cB := (A1.get 2 rfl : Blk _ _ _ _).cell 1
                simp only [List.size_toArray, List.length_cons, List.length_nil, List.getElem?_toArray, List.getElem?_cons_zero, List.getElem?_cons_succ] at cB
                go_simp
              · refine chain_call rfl ⟨_, rfl⟩ (by kernel_rfl) ?_
                intro a W k l0 h0 A0 hF hD
                have k0 : k = 0 := Nat.le_antisymm h0 l0
                subst k0
                clear l0 h0
                have e203 : a.tmps[203]?.getD undef = .pointer (some ⟨b1, 0, none⟩) := (ev a 203).symm.trans (hD _ (Array.mem_of_getElem? (i := 0) rfl) rfl)
                clear hF hD
                have A1 : Sep _ _ _ := A0
                refine ⟨_, _, by (go_simp; first | done | rfl | exact ⟨rfl, rfl⟩), ?_⟩
                refine (out_at (A1.get 1 rfl)).mono ?_
                rintro e w3 ⟨⟨v3, p3, rfl, q3, r3⟩, ⟨oa2, h3, g3⟩, u3⟩
                exact ⟨_, rfl, trivial, oa2, p3, A1.set_cons 1 rfl u3 (fun x hx => .inl hx) (t' := ctlT _ _ oa2) h3 g3 (s := ownT 30 3 v3 _ _ p3) q3 r3 (h3.ne_own q3 (by decide) (by decide))⟩
              · refine chain_run rfl ⟨_, rfl⟩ (by kernel_rfl) ?_
                intro a W k l0 h0 A0 hF hD
                have k0 : k = 1 := Nat.le_antisymm h0 l0
                subst k0
                clear l0 h0
                have e200 : a.tmps[200]?.getD undef = .slice aY y1.length cY := (ev a 200).symm.trans (hD _ (Array.mem_of_getElem? (i := 0) rfl) rfl)
                clear hF hD
                obtain ⟨oa2, p3, A1⟩ := A0
                have HR := (A1.get 0 rfl : Own _ _ _ _ _ _ _).rd (items_oneCell _)
                have A2 := A1.drop
                have HO := (A2.get 11 rfl : Own _ _ _ _ _ _ _)
                obtain ⟨ao1, cap1, w5, own1, hrun, ho1, hin1, hu5⟩ := run_append_Rd (P := Try.prog) W 31 31 30 j0 _ 3 32 Try.underlying31 ji0 jz0 jz1 jz2 rfl (by decide) _ y1.length _ _ HO _ _ _ HR (by simp only [maxLen]; omega) (by omega)
                exact ⟨_, w5, exec_append rfl ((ev a 200).trans e200) rfl hrun, trivial, oa2, own1, A2.set 11 rfl hu5 (fun x hx => .inl hx) (t' := ownT 30 3 _ (y1 ++ c1.out.2).length (items (y1 ++ c1.out.2)) own1) (by simpa [items, ownT] using ho1) hin1⟩
              · refine chain_is _ rfl ⟨_, rfl⟩ (by kernel_rfl) rfl ?_
                intro a W k l0 h0 A0 hF hD
                have k0 : k = 2 := Nat.le_antisymm h0 l0
                subst k0
                clear l0 h0
                have e196 : a.tmps[196]?.getD undef = .int .i64 1 := (ev a 196).symm.trans (hD _ (Array.mem_of_getElem? (i := 0) rfl) rfl)
                have e16 : a.tmps[16]?.getD undef = _ := (ev a 16).symm.trans (hF 16 (by kernel_rfl))
                clear hF hD
                go_simp
              · refine chain_is _ rfl ⟨_, rfl⟩ (by kernel_rfl) rfl ?_
                intro a W k l0 h0 A0 hF hD
                have k0 : k = 2 := Nat.le_antisymm h0 l0
                subst k0
                clear l0 h0
                have e206 : a.tmps[206]?.getD undef = .pointer (some ⟨BY, 1, none⟩) := (ev a 206).symm.trans (hD _ (Array.mem_of_getElem? (i := 0) rfl) rfl)
                clear hF hD
                go_simp
              · refine chain_set rfl rfl (by kernel_rfl) trivial ?_
                intro a W k l0 h0 A0 hF hD
                have k0 : k = 2 := Nat.le_antisymm h0 l0
                subst k0
                clear l0 h0
                have e207 : a.tmps[207]?.getD undef = .pointer (some ⟨BY, 1, none⟩) := (ev a 207).symm.trans (hD _ (Array.mem_of_getElem? (i := 0) rfl) rfl)
                clear hF hD
                obtain ⟨oa2, own1, A1⟩ := A0
                obtain ⟨ao1, cap1, hv, -, -⟩ := (A1.get 11 rfl : Own _ _ _ _ _ _ _).shape
                rw [List.length_append] at hv
                have e205 : a.tmps[205]?.getD undef = _ := (ev a 205).symm.trans hv
                have cB := (A1.get 5 rfl : Blk _ _ _ _).cell 1
                have fB := (A1.get 5 rfl : Blk _ _ _ _).frozen 1
                simp only [List.size_toArray, List.length_cons, List.length_nil, List.getElem?_toArray, List.getElem?_cons_zero, List.getElem?_cons_succ] at cB
                have hb := (A1.get 5 rfl : Blk _ _ _ _).set_ 1 (Value.slice ao1 (y1.length + c1.out.2.length) cap1)
                refine ⟨_, by (go_simp; first | done | rfl | exact ⟨rfl, rfl⟩), oa2, own1, A1.set 5 rfl ((Upd.refl [BY] _).setCell _ (.inl (by simp))) (fun x hx => .inl hx) (t' := blkT BY 41 _) ?_ (fun x hx => .inl hx)⟩
                rw [show leftAt _ a 9 = Value.slice ao1 (y1.length + c1.out.2.length) cap1 from hv]
                exact hb
            intro vals W hv hA
            have v0 : vals 0 = .int .i64 1 := hv 0 (by decide)
            have v1 : vals 1 = .int .i64 1 := hv 1 (by decide)
            have v2 : vals 2 = .pointer (some ⟨BY, 1, none⟩) := hv 2 (by decide)
            have v3 : vals 3 = .pointer (some ⟨BY, 1, none⟩) := hv 3 (by decide)
            have v4 : vals 4 = .slice aY y1.length cY := hv 4 (by decide)
            have v5 : vals 5 = .int .i64 1 := hv 5 (by decide)
            have v6 : vals 6 = .pointer (some ⟨BE, 1, none⟩) := hv 6 (by decide)
            have v7 : vals 7 = .pointer (some ⟨b1, 0, none⟩) := hv 7 (by decide)
            have v10 : vals 10 = .pointer (some ⟨BY, 1, none⟩) := hv 10 (by decide)
            have v11 : vals 11 = .pointer (some ⟨BY, 1, none⟩) := hv 11 (by decide)
            clear hv
            obtain ⟨oa2, own1, A1⟩ := hA
            have SP2 := Lib.hid A1
            clear A1
            generalize vals 9 = v9 at *
            simp only [putAll, Act.put, Nat.zero_add, Nat.reduceAdd, v0, v1, v2, v3, v4, v5, v6, v7, v10, v11, List.setIfInBounds_toArray, List.set_cons_zero, List.set_cons_succ]
            clear v0 v1 v2 v3 v4 v5 v6 v7 v10 v11
            go_wp2_with fail
            go_meet
            case rel =>
              exact ⟨at_, rfl, by omega, ⟨⟨c0, c1.out.1, s0, s1, g0, g1, y0, y1 ++ c1.out.2, vs0, vs1, vg0, vg1, vy0, v9, o0, oa2, os0, os1, og0, og1, oy0, own1, SP2.out, BO.out.swap.out.swap, by rw [List.length_append]; have := HNY.out; omega⟩⟩⟩
          · as_aux_lemma =>
            obtain ⟨c0, c1, s0, s1, g0, g1, y0, y1, vs0, vs1, vg0, vg1, vy0, vy1, o0, o1, os0, os1, og0, og1, oy0, oy1, sp, bo, hy⟩ := HST.out.ex
            obtain ⟨aY, cY, hvY, -, hcY⟩ := (sp.get 11 rfl : Own _ _ _ _ _ _ _).shape
            subst hvY
            simp only [maxLen] at hcY
            obtain ⟨nY, hnY⟩ : ∃ n, n = y1.length := ⟨_, rfl⟩
            have HNY := Lib.hid hnY
            have SP := Lib.hid sp
            have BO := Lib.hid bo
            have hxl : c1.out.2.length ≤ 42 := C.out_len2 (sp.get 1 rfl : CtlAt _ _ _ _).ok
            clear sp bo hnY
            go_upto_region 35 with (fail)
            refine wp_region_chain [some (.int .i64 1), some (.int .i64 1), some (.pointer (some ⟨BY, 1, none⟩)), some (.pointer (some ⟨BY, 1, none⟩)), some (.slice aY y1.length cY), some (.int .i64 1), some (.pointer (some ⟨BE, 1, none⟩)), some (.pointer (some ⟨b1, 0, none⟩)), none, none, some (.pointer (some ⟨BY, 1, none⟩)), some (.pointer (some ⟨BY, 1, none⟩)), none] [8,9,12] (outA w (brL b0 b1 BE BS BG BY c0 c1 s0 s1 g0 g1 y0 y1 vs0 vs1 vg0 vg1 vy0 (.slice aY y1.length cY) o0 o1 os0 os1 og0 og1 oy0 oy1) 1 b1 BY c1 y1 (fun u => #[vy0, u])) [(0, 2), (0, 1), (0, 1), (0, 1), (0, 1), (0, 0), (0, 0), (0, 0), (0, 0), (1, 1), (2, 2), (2, 2), (2, 2)] (by kernel_rfl) (by kernel_rfl) (by kernel_rfl) (by kernel_rfl) (by kernel_rfl) (by kernel_rfl) (SP.out.keep (Upd.refl _ _).drew) ?_ ?_
            · refine StepsC.cons ?_ (StepsC.cons ?_ (StepsC.cons ?_ (StepsC.cons ?_ (StepsC.cons ?_ (StepsC.cons ?_ (StepsC.cons ?_ (StepsC.cons ?_ (StepsC.cons ?_ (StepsC.cons ?_ (StepsC.cons ?_ (StepsC.cons ?_ (StepsC.cons ?_ StepsC.nil))))))))))))
              · refine chain_is _ rfl ⟨_, rfl⟩ (by kernel_rfl) rfl ?_
                intro a W k l0 h0 A0 hF hD
                have e20 : a.tmps[20]?.getD undef = _ := (ev a 20).symm.trans (hF 20 (by kernel_rfl))
                clear hF hD
                go_simp
              · refine chain_is _ rfl ⟨_, rfl⟩ (by kernel_rfl) rfl ?_
                intro a W k l0 h0 A0 hF hD
                have e20 : a.tmps[20]?.getD undef = _ := (ev a 20).symm.trans (hF 20 (by kernel_rfl))
                clear hF hD
                go_simp
              · refine chain_is _ rfl ⟨_, rfl⟩ (by kernel_rfl) rfl ?_
                intro a W k l0 h0 A0 hF hD
                have e197 : a.tmps[197]?.getD undef = .int .i64 1 := (ev a 197).symm.trans (hD _ (Array.mem_of_getElem? (i := 0) rfl) rfl)
                have e16 : a.tmps[16]?.getD undef = _ := (ev a 16).symm.trans (hF 16 (by kernel_rfl))
                clear hF hD
                go_simp
              · refine chain_is _ rfl ⟨_, rfl⟩ (by kernel_rfl) rfl ?_
                intro a W k l0 h0 A0 hF hD
                have e198 : a.tmps[198]?.getD undef = .pointer (some ⟨BY, 1, none⟩) := (ev a 198).symm.trans (hD _ (Array.mem_of_getElem? (i := 0) rfl) rfl)
                clear hF hD
                go_simp
              · refine chain_is _ rfl ⟨_, rfl⟩ (by kernel_rfl) rfl ?_
                intro a W k l0 h0 A0 hF hD
                have e199 : a.tmps[199]?.getD undef = .pointer (some ⟨BY, 1, none⟩) := (ev a 199).symm.trans (hD _ (Array.mem_of_getElem? (i := 0) rfl) rfl)
                clear hF hD
                have cB := (outA_BY (rfl : _ = some (blkT BY 41 #[vy0, .slice aY y1.length cY])) (by decide) (by simp only [List.length_map, List.length_take]; omega) A0).cell 1
                simp only [List.size_toArray, List.length_cons, List.length_nil, List.getElem?_toArray, List.getElem?_cons_zero, List.getElem?_cons_succ] at cB
                go_simp
              · refine chain_is _ rfl ⟨_, rfl⟩ (by kernel_rfl) rfl ?_
                intro a W k l0 h0 A0 hF hD
                have k0 : k = 0 := Nat.le_antisymm h0 l0
                subst k0
                clear l0 h0
                have e20 : a.tmps[20]?.getD undef = _ := (ev a 20).symm.trans (hF 20 (by kernel_rfl))
                clear hF hD
                go_simp
              · refine chain_is _ rfl ⟨_, rfl⟩ (by kernel_rfl) rfl ?_
                intro a W k l0 h0 A0 hF hD
                have k0 : k = 0 := Nat.le_antisymm h0 l0
                subst k0
                clear l0 h0
                have e201 : a.tmps[201]?.getD undef = .int .i64 1 := (ev a 201).symm.trans (hD _ (Array.mem_of_getElem? (i := 0) rfl) rfl)
                have e13 : a.tmps[13]?.getD undef = _ := (ev a 13).symm.trans (hF 13 (by kernel_rfl))
                clear hF hD
                go_simp
              · refine chain_is _ rfl ⟨_, rfl⟩ (by kernel_rfl) rfl ?_
                intro a W k l0 h0 A0 hF hD
                have k0 : k = 0 := Nat.le_antisymm h0 l0
                subst k0
                clear l0 h0
                have e202 : a.tmps[202]?.getD undef = .pointer (some ⟨BE, 1, none⟩) := (ev a 202).symm.trans (hD _ (Array.mem_of_getElem? (i := 0) rfl) rfl)
                clear hF hD
                have A1 : Sep _ _ _ := A0
                have cB := (A1.get 2 rfl : Blk _ _ _ _).cell 1
                simp only [List.size_toArray, List.length_cons, List.length_nil, List.getElem?_toArray, List.getElem?_cons_zero, List.getElem?_cons_succ] at cB
                go_simp
              · refine chain_call rfl ⟨_, rfl⟩ (by kernel_rfl) ?_
                intro a W k l0 h0 A0 hF hD
                have k0 : k = 0 := Nat.le_antisymm h0 l0
                subst k0
                clear l0 h0
                have e203 : a.tmps[203]?.getD undef = .pointer (some ⟨b1, 0, none⟩) := (ev a 203).symm.trans (hD _ (Array.mem_of_getElem? (i := 0) rfl) rfl)
                clear hF hD
                have A1 : Sep _ _ _ := A0
                refine ⟨_, _, by (go_simp; first | done | rfl | exact ⟨rfl, rfl⟩), ?_⟩
                refine (out_at (A1.get 1 rfl)).mono ?_
                rintro e w3 ⟨⟨v3, p3, rfl, q3, r3⟩, ⟨oa2, h3, g3⟩, u3⟩
                exact ⟨_, rfl, trivial, oa2, p3, A1.set_cons 1 rfl u3 (fun x hx => .inl hx) (t' := ctlT _ _ oa2) h3 g3 (s := ownT 30 3 v3 _ _ p3) q3 r3 (h3.ne_own q3 (by decide) (by decide))⟩
              · refine chain_run rfl ⟨_, rfl⟩ (by kernel_rfl) ?_
                intro a W k l0 h0 A0 hF hD
                have k0 : k = 1 := Nat.le_antisymm h0 l0
                subst k0
                clear l0 h0
                have e200 : a.tmps[200]?.getD undef = .slice aY y1.length cY := (ev a 200).symm.trans (hD _ (Array.mem_of_getElem? (i := 0) rfl) rfl)
                clear hF hD
                obtain ⟨oa2, p3, A1⟩ := A0
                have HR := (A1.get 0 rfl : Own _ _ _ _ _ _ _).rd (items_oneCell _)
                have A2 := A1.drop
                have HO := (A2.get 11 rfl : Own _ _ _ _ _ _ _)
                obtain ⟨ao1, cap1, w5, own1, hrun, ho1, hin1, hu5⟩ := run_append_Rd (P := Try.prog) W 31 31 30 j0 _ 3 32 Try.underlying31 ji0 jz0 jz1 jz2 rfl (by decide) _ y1.length _ _ HO _ _ _ HR (by simp only [maxLen]; omega) (by omega)
                exact ⟨_, w5, exec_append rfl ((ev a 200).trans e200) rfl hrun, trivial, oa2, own1, A2.set 11 rfl hu5 (fun x hx => .inl hx) (t' := ownT 30 3 _ (y1 ++ c1.out.2).length (items (y1 ++ c1.out.2)) own1) (by simpa [items, ownT] using ho1) hin1⟩
              · refine chain_is _ rfl ⟨_, rfl⟩ (by kernel_rfl) rfl ?_
                intro a W k l0 h0 A0 hF hD
                have k0 : k = 2 := Nat.le_antisymm h0 l0
                subst k0
                clear l0 h0
                have e196 : a.tmps[196]?.getD undef = .int .i64 1 := (ev a 196).symm.trans (hD _ (Array.mem_of_getElem? (i := 0) rfl) rfl)
                have e16 : a.tmps[16]?.getD undef = _ := (ev a 16).symm.trans (hF 16 (by kernel_rfl))
                clear hF hD
                go_simp
              · refine chain_is _ rfl ⟨_, rfl⟩ (by kernel_rfl) rfl ?_
                intro a W k l0 h0 A0 hF hD
                have k0 : k = 2 := Nat.le_antisymm h0 l0
                subst k0
                clear l0 h0
                have e206 : a.tmps[206]?.getD undef = .pointer (some ⟨BY, 1, none⟩) := (ev a 206).symm.trans (hD _ (Array.mem_of_getElem? (i := 0) rfl) rfl)
                clear hF hD
                go_simp
              · refine chain_set rfl rfl (by kernel_rfl) trivial ?_
                intro a W k l0 h0 A0 hF hD
                have k0 : k = 2 := Nat.le_antisymm h0 l0
                subst k0
                clear l0 h0
                have e207 : a.tmps[207]?.getD undef = .pointer (some ⟨BY, 1, none⟩) := (ev a 207).symm.trans (hD _ (Array.mem_of_getElem? (i := 0) rfl) rfl)
                clear hF hD
                obtain ⟨oa2, own1, A1⟩ := A0
                obtain ⟨ao1, cap1, hv, -, -⟩ := (A1.get 11 rfl : Own _ _ _ _ _ _ _).shape
                rw [List.length_append] at hv
                have e205 : a.tmps[205]?.getD undef = _ := (ev a 205).symm.trans hv
                have cB := (A1.get 5 rfl : Blk _ _ _ _).cell 1
                have fB := (A1.get 5 rfl : Blk _ _ _ _).frozen 1
                simp only [List.size_toArray, List.length_cons, List.length_nil, List.getElem?_toArray, List.getElem?_cons_zero, List.getElem?_cons_succ] at cB
                have hb := (A1.get 5 rfl : Blk _ _ _ _).set_ 1 (Value.slice ao1 (y1.length + c1.out.2.length) cap1)
                refine ⟨_, by (go_simp; first | done | rfl | exact ⟨rfl, rfl⟩), oa2, own1, A1.set 5 rfl ((Upd.refl [BY] _).setCell _ (.inl (by simp))) (fun x hx => .inl hx) (t' := blkT BY 41 _) ?_ (fun x hx => .inl hx)⟩
                rw [show leftAt _ a 9 = Value.slice ao1 (y1.length + c1.out.2.length) cap1 from hv]
                exact hb
            intro vals W hv hA
            have v0 : vals 0 = .int .i64 1 := hv 0 (by decide)
            have v1 : vals 1 = .int .i64 1 := hv 1 (by decide)
            have v2 : vals 2 = .pointer (some ⟨BY, 1, none⟩) := hv 2 (by decide)
            have v3 : vals 3 = .pointer (some ⟨BY, 1, none⟩) := hv 3 (by decide)
            have v4 : vals 4 = .slice aY y1.length cY := hv 4 (by decide)
            have v5 : vals 5 = .int .i64 1 := hv 5 (by decide)
            have v6 : vals 6 = .pointer (some ⟨BE, 1, none⟩) := hv 6 (by decide)
            have v7 : vals 7 = .pointer (some ⟨b1, 0, none⟩) := hv 7 (by decide)
            have v10 : vals 10 = .pointer (some ⟨BY, 1, none⟩) := hv 10 (by decide)
            have v11 : vals 11 = .pointer (some ⟨BY, 1, none⟩) := hv 11 (by decide)
            clear hv
            obtain ⟨oa2, own1, A1⟩ := hA
            have SP2 := Lib.hid A1
            clear A1
            generalize vals 9 = v9 at *
            simp only [putAll, Act.put, Nat.zero_add, Nat.reduceAdd, v0, v1, v2, v3, v4, v5, v6, v7, v10, v11, List.setIfInBounds_toArray, List.set_cons_zero, List.set_cons_succ]
            clear v0 v1 v2 v3 v4 v5 v6 v7 v10 v11
            go_wp2_with fail
            go_meet
            case rel =>
              exact ⟨at_, rfl, by omega, ⟨⟨c0, c1.out.1, s0, s1, g0, g1, y0, y1 ++ c1.out.2, vs0, vs1, vg0, vg1, vy0, v9, o0, oa2, os0, os1, og0, og1, oy0, own1, SP2.out, BO.out.swap.out.swap, by rw [List.length_append]; have := HNY.out; omega⟩⟩⟩
          · as_aux_lemma =>
            obtain ⟨c0, c1, s0, s1, g0, g1, y0, y1, vs0, vs1, vg0, vg1, vy0, vy1, o0, o1, os0, os1, og0, og1, oy0, oy1, sp, bo, hy⟩ := HST.out.ex
            obtain ⟨aY, cY, hvY, hcY1, hcY⟩ := (sp.get 11 rfl : Own _ _ _ _ _ _ _).shape
            subst hvY
            simp only [maxLen] at hcY
            obtain ⟨nY, hnY⟩ : ∃ n, n = y1.length := ⟨_, rfl⟩
            have cB := (sp.get 5 rfl : Blk _ _ _ _).cell 1
            simp only [List.size_toArray, List.length_cons, List.length_nil, List.getElem?_toArray, List.getElem?_cons_zero, List.getElem?_cons_succ] at cB
            rw [← hnY] at cB hcY1
            have HNY := Lib.hid hnY
            have SP := Lib.hid sp
            have BO := Lib.hid bo
            have HY := Lib.hid hy
            clear sp bo hnY hy
            by_cases hy0 : nY = 0
            · subst hy0
              go_wp2_with fail
              go_roundg (n2 - (i + 1))
              case rel => exact ⟨i + 1, at_, by omega, by go_num, rfl, by omega, ⟨⟨c0, c1, s0, s1, g0, g1, y0, y1, vs0, vs1, vg0, vg1, vy0, (.slice aY y1.length cY), o0, o1, os0, os1, og0, og1, oy0, oy1, SP.out, BO.out, by have := HY.out; omega⟩⟩⟩
              case measure => omega
            · go_upto_region 19 with (fail)
              have h10 := i64_mask (P / 16) 10 (by omega)
              obtain ⟨kk, hkk, hlt⟩ : ∃ kk : Nat, (bits BinOp.and IntKind.i64 (P / 16) 1023).tmod nY = kk ∧ kk < nY := by
                rw [show (1023 : Int) = ((2 ^ 10 - 1 : Nat) : Int) from rfl, h10, Int.tmod_eq_emod_of_nonneg (by omega)]
                have h1 := Int.emod_nonneg (P / 16 % ((2 ^ 10 : Nat) : Int)) (b := (nY : Int)) (by omega)
                have h2 := Int.emod_lt_of_pos (P / 16 % ((2 ^ 10 : Nat) : Int)) (b := (nY : Int)) (by omega)
                exact ⟨((P / 16 % ((2 ^ 10 : Nat) : Int)) % (nY : Int)).toNat, by omega, by omega⟩
              rw [hkk]
              clear hkk h10
              obtain ⟨x, hx⟩ : ∃ x, y1[kk]? = some x := ⟨_, List.getElem?_eq_getElem (by have := HNY.out; omega)⟩
              obtain ⟨qY, rfl, c0_, c1_, c2_⟩ := ((SP.out.get 11 rfl : Own _ _ _ _ _ _ _).rd (items_oneCell _)).item hx
              have HX : Hid (x ∈ y1) := List.mem_of_getElem? hx
              have hxs : x.body.size ≤ 3 := BO.out.swap.small HX.out
              have SPX := Lib.hid (SP.out.cons (t := blkT wr.heap.size 30 #[.int .i64 x.ns, .int .i64 x.nr, .string x.body]) ((Upd.refl _ _).alloc _) (Blk.new _ _ _) (by simp [blkT]))
              have hkd := HKD.out
              have lY := (SP.out.get 5 rfl : Blk _ _ _ _).lt
              clear hx SP
              go_upto_region 21 with (fail)
              refine gen_world (fun V => Sep w V (blkT wr.heap.size 30 #[.int .i64 x.ns, .int .i64 x.nr, .string x.body] :: brL b0 b1 BE BS BG BY c0 c1 s0 s1 g0 g1 y0 y1 vs0 vs1 vg0 vg1 vy0 (.slice (some qY) y1.length cY) o0 o1 os0 os1 og0 og1 oy0 oy1)) SPX.out ?_
              intro W1 SP1
              clear SPX
              generalize wr.heap.size = BX at *
              have SP2 := Lib.hid SP1
              clear SP1
              clear c0_ c1_ c2_ lY
              have hkn : kk + 1 ≤ y1.length := by have := HNY.out; omega
              have hyl : y1.length ≤ 42 * 400 := by have := HY.out; omega
              have hw13 : IntKind.i64.wrap ((kk : Int) + 1) = (kk : Int) + 1 := IntWalk.i64_in _ (by omega)
              have hsl := run_prefix (P := Try.prog) 31 Try.underlying31 3 size_item (some qY) y1.length cY kk (by have := HNY.out; omega)
              obtain ⟨vT, hvT⟩ : ∃ v, v = sliced (some qY) (kk + 1) y1.length cY 3 := ⟨_, rfl⟩
              have hss := run_suffix (P := Try.prog) 31 Try.underlying31 3 size_item (some qY) y1.length cY (kk + 1) hkn vT hvT
              rw [show (((kk + 1 : Nat) : Int)) = (kk : Int) + 1 by omega] at hss
              have HVT := Lib.hid hvT
              clear hvT
              refine wp_region_chain [some (.int .i64 1), some (.int .i64 1), some (.pointer (some ⟨BY, 1, none⟩)), some (.pointer (some ⟨BY, 1, none⟩)), some (.slice (some qY) y1.length cY), some (.int .i64 kk), some (.slice (some qY) kk cY), none, some (.int .i64 1), some (.pointer (some ⟨BY, 1, none⟩)), some (.pointer (some ⟨BY, 1, none⟩)), some (.slice (some qY) y1.length cY), some (.int .i64 kk), some (.int .i64 ((kk : Int) + 1)), some (vT), none, some (.pointer (some ⟨BY, 1, none⟩)), some (.pointer (some ⟨BY, 1, none⟩)), none] [7,15,18] (cutA w (blkT BX 30 #[.int .i64 x.ns, .int .i64 x.nr, .string x.body] :: brL b0 b1 BE BS BG BY c0 c1 s0 s1 g0 g1 y0 y1 vs0 vs1 vg0 vg1 vy0 (.slice (some qY) y1.length cY) o0 o1 os0 os1 og0 og1 oy0 oy1) BY (y1.take kk) (y1.drop (kk + 1)) (fun u => #[vy0, u])) [(0, 2), (0, 0), (0, 0), (0, 0), (0, 0), (0, 0), (0, 0), (0, 0), (0, 1), (0, 1), (0, 1), (0, 1), (0, 1), (0, 1), (0, 1), (1, 1), (2, 2), (2, 2), (2, 2)] (by kernel_rfl) (by kernel_rfl) (by kernel_rfl) (by kernel_rfl) (by kernel_rfl) (by kernel_rfl) (SP2.out.keep (Upd.refl _ _).drew) ?_ ?_
              · refine StepsC.cons ?_ (StepsC.cons ?_ (StepsC.cons ?_ (StepsC.cons ?_ (StepsC.cons ?_ (StepsC.cons ?_ (StepsC.cons ?_ (StepsC.cons ?_ (StepsC.cons ?_ (StepsC.cons ?_ (StepsC.cons ?_ (StepsC.cons ?_ (StepsC.cons ?_ (StepsC.cons ?_ (StepsC.cons ?_ (StepsC.cons ?_ (StepsC.cons ?_ (StepsC.cons ?_ (StepsC.cons ?_ StepsC.nil))))))))))))))))))
                · refine chain_is _ rfl ⟨_, rfl⟩ (by kernel_rfl) rfl ?_
                  intro a W k l0 h0 A0 hF hD
                  have e20 : a.tmps[20]?.getD undef = _ := (ev a 20).symm.trans (hF 20 (by kernel_rfl))
                  clear hF hD
                  go_simp
                · refine chain_is _ rfl ⟨_, rfl⟩ (by kernel_rfl) rfl ?_
                  intro a W k l0 h0 A0 hF hD
                  have k0 : k = 0 := Nat.le_antisymm h0 l0
                  subst k0
                  clear l0 h0
                  have e20 : a.tmps[20]?.getD undef = _ := (ev a 20).symm.trans (hF 20 (by kernel_rfl))
                  clear hF hD
                  go_simp
                · refine chain_is _ rfl ⟨_, rfl⟩ (by kernel_rfl) rfl ?_
                  intro a W k l0 h0 A0 hF hD
                  have k0 : k = 0 := Nat.le_antisymm h0 l0
                  subst k0
                  clear l0 h0
                  have e120 : a.tmps[120]?.getD undef = .int .i64 1 := (ev a 120).symm.trans (hD _ (Array.mem_of_getElem? (i := 0) rfl) rfl)
                  have e16 : a.tmps[16]?.getD undef = _ := (ev a 16).symm.trans (hF 16 (by kernel_rfl))
                  clear hF hD
                  go_simp
                · refine chain_is _ rfl ⟨_, rfl⟩ (by kernel_rfl) rfl ?_
                  intro a W k l0 h0 A0 hF hD
                  have k0 : k = 0 := Nat.le_antisymm h0 l0
                  subst k0
                  clear l0 h0
                  have e121 : a.tmps[121]?.getD undef = .pointer (some ⟨BY, 1, none⟩) := (ev a 121).symm.trans (hD _ (Array.mem_of_getElem? (i := 0) rfl) rfl)
                  clear hF hD
                  go_simp
                · refine chain_is _ rfl ⟨_, rfl⟩ (by kernel_rfl) rfl ?_
                  intro a W k l0 h0 A0 hF hD
                  have k0 : k = 0 := Nat.le_antisymm h0 l0
                  subst k0
                  clear l0 h0
                  have e122 : a.tmps[122]?.getD undef = .pointer (some ⟨BY, 1, none⟩) := (ev a 122).symm.trans (hD _ (Array.mem_of_getElem? (i := 0) rfl) rfl)
                  clear hF hD
                  have A1 : Sep _ _ _ := A0
                  have cB := (A1.get 6 rfl : Blk _ _ _ _).cell 1
                  simp only [List.size_toArray, List.length_cons, List.length_nil, List.getElem?_toArray, List.getElem?_cons_zero, List.getElem?_cons_succ] at cB
                  go_simp
                · refine chain_is _ rfl ⟨_, rfl⟩ (by kernel_rfl) rfl ?_
                  intro a W k l0 h0 A0 hF hD
                  have k0 : k = 0 := Nat.le_antisymm h0 l0
                  subst k0
                  clear l0 h0
                  have e22 : a.tmps[22]?.getD undef = _ := (ev a 22).symm.trans (hF 22 (by kernel_rfl))
                  clear hF hD
                  go_simp
                · refine chain_is _ rfl ⟨_, rfl⟩ (by kernel_rfl) rfl ?_
                  intro a W k l0 h0 A0 hF hD
                  have k0 : k = 0 := Nat.le_antisymm h0 l0
                  subst k0
                  clear l0 h0
                  have e123 : a.tmps[123]?.getD undef = .slice (some qY) y1.length cY := (ev a 123).symm.trans (hD _ (Array.mem_of_getElem? (i := 0) rfl) rfl)
                  have e124 : a.tmps[124]?.getD undef = .int .i64 kk := (ev a 124).symm.trans (hD _ (Array.mem_of_getElem? (i := 1) rfl) rfl)
                  clear hF hD
                  go_simp
                · refine chain_run rfl ⟨_, rfl⟩ (by kernel_rfl) ?_
                  intro a W k l0 h0 A0 hF hD
                  have k0 : k = 0 := Nat.le_antisymm h0 l0
                  subst k0
                  clear l0 h0
                  have e125 : a.tmps[125]?.getD undef = .slice (some qY) kk cY := (ev a 125).symm.trans (hD _ (Array.mem_of_getElem? (i := 0) rfl) rfl)
                  clear hF hD
                  have A1 : Sep _ _ _ := A0
                  have HR0 := ((A1.get 12 rfl : Own _ _ _ _ _ _ _).rd (items_oneCell _)).cut (m := kk) (by omega)
                  rw [← items_take] at HR0
                  obtain ⟨ao1, cap1, w5, own1, hrun, ho1, hin1, hu5⟩ := run_append_Rd (P := Try.prog) W 31 31 30 j0 _ 3 32 Try.underlying31 ji0 jz0 jz1 jz2 rfl (by decide) _ 0 _ _ (Own.nil _ _ _) _ _ _ HR0 (by simp only [maxLen]; omega) (by omega)
                  exact ⟨_, w5, exec_append rfl rfl ((ev a 125).trans e125) hrun, trivial, own1, A1.cons (t := ownT 30 3 _ (y1.take kk).length (items (y1.take kk)) own1) hu5 (by have hl : 0 + kk = (y1.take kk).length := (by rw [List.length_take]; omega); rw [← hl]; simpa [ownT] using ho1) (fun k hk => (hin1 k hk).resolve_left (by simp))⟩
                · refine chain_is _ rfl ⟨_, rfl⟩ (by kernel_rfl) rfl ?_
                  intro a W k l0 h0 A0 hF hD
                  have e20 : a.tmps[20]?.getD undef = _ := (ev a 20).symm.trans (hF 20 (by kernel_rfl))
                  clear hF hD
                  go_simp
                · refine chain_is _ rfl ⟨_, rfl⟩ (by kernel_rfl) rfl ?_
                  intro a W k l0 h0 A0 hF hD
                  have e127 : a.tmps[127]?.getD undef = .int .i64 1 := (ev a 127).symm.trans (hD _ (Array.mem_of_getElem? (i := 0) rfl) rfl)
                  have e16 : a.tmps[16]?.getD undef = _ := (ev a 16).symm.trans (hF 16 (by kernel_rfl))
                  clear hF hD
                  go_simp
                · refine chain_is _ rfl ⟨_, rfl⟩ (by kernel_rfl) rfl ?_
                  intro a W k l0 h0 A0 hF hD
                  have e128 : a.tmps[128]?.getD undef = .pointer (some ⟨BY, 1, none⟩) := (ev a 128).symm.trans (hD _ (Array.mem_of_getElem? (i := 0) rfl) rfl)
                  clear hF hD
                  go_simp
                · refine chain_is _ rfl ⟨_, rfl⟩ (by kernel_rfl) rfl ?_
                  intro a W k l0 h0 A0 hF hD
                  have e129 : a.tmps[129]?.getD undef = .pointer (some ⟨BY, 1, none⟩) := (ev a 129).symm.trans (hD _ (Array.mem_of_getElem? (i := 0) rfl) rfl)
                  clear hF hD
                  have A1 := cutA_L (by simp only [List.length_map, List.length_take]; omega) A0
                  have cB := (A1.get 6 rfl : Blk _ _ _ _).cell 1
                  simp only [List.size_toArray, List.length_cons, List.length_nil, List.getElem?_toArray, List.getElem?_cons_zero, List.getElem?_cons_succ] at cB
                  go_simp
                · refine chain_is _ rfl ⟨_, rfl⟩ (by kernel_rfl) rfl ?_
                  intro a W k l0 h0 A0 hF hD
                  have e22 : a.tmps[22]?.getD undef = _ := (ev a 22).symm.trans (hF 22 (by kernel_rfl))
                  clear hF hD
                  go_simp
                · refine chain_is _ rfl ⟨_, rfl⟩ (by kernel_rfl) rfl ?_
                  intro a W k l0 h0 A0 hF hD
                  have e131 : a.tmps[131]?.getD undef = .int .i64 kk := (ev a 131).symm.trans (hD _ (Array.mem_of_getElem? (i := 0) rfl) rfl)
                  clear hF hD
                  go_simp
                · refine chain_is _ rfl ⟨_, rfl⟩ (by kernel_rfl) rfl ?_
                  intro a W k l0 h0 A0 hF hD
                  have e130 : a.tmps[130]?.getD undef = .slice (some qY) y1.length cY := (ev a 130).symm.trans (hD _ (Array.mem_of_getElem? (i := 0) rfl) rfl)
                  have e132 : a.tmps[132]?.getD undef = .int .i64 ((kk : Int) + 1) := (ev a 132).symm.trans (hD _ (Array.mem_of_getElem? (i := 1) rfl) rfl)
                  clear hF hD
                  go_simp
                · refine chain_run rfl ⟨_, rfl⟩ (by kernel_rfl) ?_
                  intro a W k l0 h0 A0 hF hD
                  have k0 : k = 1 := Nat.le_antisymm h0 l0
                  subst k0
                  clear l0 h0
                  have e133 : a.tmps[133]?.getD undef = vT := (ev a 133).symm.trans (hD _ (Array.mem_of_getElem? (i := 1) rfl) rfl)
                  clear hF hD
                  obtain ⟨p3, A1⟩ := A0
                  have HR0 := ((A1.get 13 rfl : Own _ _ _ _ _ _ _).rd (items_oneCell _)).tail (m := kk + 1) hkn
                  rw [← items_drop, ← HVT.out] at HR0
                  have HO := (A1.get 0 rfl : Own _ _ _ _ _ _ _)
                  have hlt2 : (y1.take kk).length ≤ 42 * 400 := by rw [List.length_take]; omega
                  obtain ⟨ao1, cap1, w5, own1, hrun, ho1, hin1, hu5⟩ := run_append_Rd (P := Try.prog) W 31 31 30 j0 _ 3 32 Try.underlying31 ji0 jz0 jz1 jz2 rfl (by decide) _ (y1.take kk).length _ _ HO _ _ _ HR0 (by simp only [maxLen]; omega) (by omega)
                  exact ⟨_, w5, exec_append rfl rfl ((ev a 133).trans e133) hrun, trivial, own1, A1.set 0 rfl hu5 (fun x hx => .inl hx) (t' := ownT 30 3 _ (y1.take kk ++ y1.drop (kk + 1)).length (items (y1.take kk ++ y1.drop (kk + 1))) own1) (by have hl : (y1.take kk).length + (y1.length - (kk + 1)) = (y1.take kk ++ y1.drop (kk + 1)).length := (by rw [List.length_append, List.length_drop]); rw [← hl]; have hc : items (y1.take kk ++ y1.drop (kk + 1)) = items (y1.take kk) ++ items (y1.drop (kk + 1)) := (by simp [items]); rw [hc]; exact ho1) hin1⟩
                · refine chain_is _ rfl ⟨_, rfl⟩ (by kernel_rfl) rfl ?_
                  intro a W k l0 h0 A0 hF hD
                  have k0 : k = 2 := Nat.le_antisymm h0 l0
                  subst k0
                  clear l0 h0
                  have e119 : a.tmps[119]?.getD undef = .int .i64 1 := (ev a 119).symm.trans (hD _ (Array.mem_of_getElem? (i := 0) rfl) rfl)
                  have e16 : a.tmps[16]?.getD undef = _ := (ev a 16).symm.trans (hF 16 (by kernel_rfl))
                  clear hF hD
                  go_simp
                · refine chain_is _ rfl ⟨_, rfl⟩ (by kernel_rfl) rfl ?_
                  intro a W k l0 h0 A0 hF hD
                  have k0 : k = 2 := Nat.le_antisymm h0 l0
                  subst k0
                  clear l0 h0
                  have e135 : a.tmps[135]?.getD undef = .pointer (some ⟨BY, 1, none⟩) := (ev a 135).symm.trans (hD _ (Array.mem_of_getElem? (i := 0) rfl) rfl)
                  clear hF hD
                  go_simp
                · refine chain_set rfl rfl (by kernel_rfl) trivial ?_
                  intro a W k l0 h0 A0 hF hD
                  have k0 : k = 2 := Nat.le_antisymm h0 l0
                  subst k0
                  clear l0 h0
                  have e136 : a.tmps[136]?.getD undef = .pointer (some ⟨BY, 1, none⟩) := (ev a 136).symm.trans (hD _ (Array.mem_of_getElem? (i := 0) rfl) rfl)
                  clear hF hD
                  obtain ⟨own1, A1⟩ := A0
                  obtain ⟨ao1, cap1, hv, -, -⟩ := (A1.get 0 rfl : Own _ _ _ _ _ _ _).shape
                  obtain ⟨nn, hnn⟩ : ∃ n, n = (y1.take kk ++ y1.drop (kk + 1)).length := ⟨_, rfl⟩
                  rw [← hnn] at hv
                  clear hnn
                  have e134 : a.tmps[134]?.getD undef = _ := (ev a 134).symm.trans hv
                  have cB := (A1.get 7 rfl : Blk _ _ _ _).cell 1
                  have fB := (A1.get 7 rfl : Blk _ _ _ _).frozen 1
                  simp only [List.size_toArray, List.length_cons, List.length_nil, List.getElem?_toArray, List.getElem?_cons_zero, List.getElem?_cons_succ] at cB
                  have hb := (A1.get 7 rfl : Blk _ _ _ _).set_ 1 (Value.slice ao1 nn cap1)
                  refine ⟨_, by (go_simp; first | done | rfl | exact ⟨rfl, rfl⟩), own1, A1.set 7 rfl ((Upd.refl [BY] _).setCell _ (.inl (by simp))) (fun x hx => .inl hx) (t' := blkT BY 41 _) ?_ (fun x hx => .inl hx)⟩
                  rw [show leftAt _ a 15 = Value.slice ao1 nn cap1 from hv]
                  exact hb
              intro vals W hv hA
              have v0 : vals 0 = .int .i64 1 := hv 0 (by decide)
              have v1 : vals 1 = .int .i64 1 := hv 1 (by decide)
              have v2 : vals 2 = .pointer (some ⟨BY, 1, none⟩) := hv 2 (by decide)
              have v3 : vals 3 = .pointer (some ⟨BY, 1, none⟩) := hv 3 (by decide)
              have v4 : vals 4 = .slice (some qY) y1.length cY := hv 4 (by decide)
              have v5 : vals 5 = .int .i64 kk := hv 5 (by decide)
              have v6 : vals 6 = .slice (some qY) kk cY := hv 6 (by decide)
              have v8 : vals 8 = .int .i64 1 := hv 8 (by decide)
              have v9 : vals 9 = .pointer (some ⟨BY, 1, none⟩) := hv 9 (by decide)
              have v10 : vals 10 = .pointer (some ⟨BY, 1, none⟩) := hv 10 (by decide)
              have v11 : vals 11 = .slice (some qY) y1.length cY := hv 11 (by decide)
              have v12 : vals 12 = .int .i64 kk := hv 12 (by decide)
              have v13 : vals 13 = .int .i64 ((kk : Int) + 1) := hv 13 (by decide)
              have v14 : vals 14 = vT := hv 14 (by decide)
              have v16 : vals 16 = .pointer (some ⟨BY, 1, none⟩) := hv 16 (by decide)
              have v17 : vals 17 = .pointer (some ⟨BY, 1, none⟩) := hv 17 (by decide)
              clear hv
              obtain ⟨ownY, A1⟩ := hA
              clear SP2
              have SP2 := Lib.hid (A1.move 12)
              clear A1 hsl hss
              generalize vals 15 = v15 at *
              simp only [putAll, Act.put, Nat.zero_add, Nat.reduceAdd, v0, v1, v2, v3, v4, v5, v6, v8, v9, v10, v11, v12, v13, v14, v16, v17, List.setIfInBounds_toArray, List.set_cons_zero, List.set_cons_succ]
              clear v0 v1 v2 v3 v4 v5 v6 v8 v9 v10 v11 v12 v13 v14 v16 v17
              go_upto_region 22 with (fail)
              by_cases tl : bits BinOp.and IntKind.i64 (P / 16384) 3 = 0
              · go_wp2_with fail
                go_meet
                case rel => exact ⟨at_, rfl, by omega, ⟨⟨c0, c1, s0, s1, g0, g1, y0, (y1.take kk ++ y1.drop (kk + 1)), vs0, vs1, vg0, vg1, vy0, v15, o0, o1, os0, os1, og0, og1, oy0, ownY, SP2.out.drop, (BO.out.swap.sub (cut_sub kk)).swap, by have := HY.out; have := HNY.out; simp only [List.length_append, List.length_take, List.length_drop]; omega⟩⟩⟩
              · have tl2 : ((bits BinOp.and IntKind.i64 (P / 16384) 3) != 0) = true := by simpa using tl
                go_upto_region 23 with (fail)
                obtain ⟨aG, cG, hvG, -, hcG⟩ := (SP2.out.get 9 rfl : Own _ _ _ _ _ _ _).shape
                subst hvG
                simp only [maxLen] at hcG
                have hgl : g0.length ≤ 60 := by have h1 := BO.out.good; have h2 := BO.out.few; have h3 := BO.out.n60; omega
                have hw1 : IntKind.i64.wrap 0 = 0 := by rfl
                clear tl tl2 hkd
                refine wp_region_chain [some (.int .i64 1), some (.int .i64 0), some (.int .i64 1), some (.int .i64 0), some (.pointer (some ⟨BG, 0, none⟩)), some (.slice aG g0.length cG), some (.int .i64 1), some (.int .i64 0), some (.pointer (some ⟨BE, 0, none⟩)), some (.pointer (some ⟨b0, 0, none⟩)), some (.agg #[.int .i64 x.ns, .int .i64 x.nr, .string x.body]), none, none, some (.pointer (some ⟨BG, 0, none⟩)), none] [11,12,14] (takeA w (blkT BX 30 #[.int .i64 x.ns, .int .i64 x.nr, .string x.body] :: brL b0 b1 BE BS BG BY c0 c1 s0 s1 g0 g1 y0 (y1.take kk ++ y1.drop (kk + 1)) vs0 vs1 (.slice aG g0.length cG) vg1 vy0 v15 o0 o1 os0 os1 og0 og1 oy0 ownY) 0 b0 BG c0 x g0 o0 (fun u => #[u, vg1])) [(0, 2), (0, 2), (0, 1), (0, 1), (0, 1), (0, 1), (0, 0), (0, 0), (0, 0), (0, 0), (0, 0), (0, 0), (1, 1), (2, 2), (2, 2)] (by kernel_rfl) (by kernel_rfl) (by kernel_rfl) (by kernel_rfl) (by kernel_rfl) (by kernel_rfl) (SP2.out.keep (Upd.refl _ _).drew) ?_ ?_
                · refine StepsC.cons ?_ (StepsC.cons ?_ (StepsC.cons ?_ (StepsC.cons ?_ (StepsC.cons ?_ (StepsC.cons ?_ (StepsC.cons ?_ (StepsC.cons ?_ (StepsC.cons ?_ (StepsC.cons ?_ (StepsC.cons ?_ (StepsC.cons ?_ (StepsC.cons ?_ (StepsC.cons ?_ (StepsC.cons ?_ StepsC.nil))))))))))))))
                  · refine chain_is _ rfl ⟨_, rfl⟩ (by kernel_rfl) rfl ?_
                    intro a W k l0 h0 A0 hF hD
                    have e20 : a.tmps[20]?.getD undef = _ := (ev a 20).symm.trans (hF 20 (by kernel_rfl))
                    clear hF hD
                    go_simp
                  · refine chain_is _ rfl ⟨_, rfl⟩ (by kernel_rfl) rfl ?_
                    intro a W k l0 h0 A0 hF hD
                    have e141 : a.tmps[141]?.getD undef = .int .i64 1 := (ev a 141).symm.trans (hD _ (Array.mem_of_getElem? (i := 0) rfl) rfl)
                    clear hF hD
                    go_simp
                  · refine chain_is _ rfl ⟨_, rfl⟩ (by kernel_rfl) rfl ?_
                    intro a W k l0 h0 A0 hF hD
                    have e20 : a.tmps[20]?.getD undef = _ := (ev a 20).symm.trans (hF 20 (by kernel_rfl))
                    clear hF hD
                    go_simp
                  · refine chain_is _ rfl ⟨_, rfl⟩ (by kernel_rfl) rfl ?_
                    intro a W k l0 h0 A0 hF hD
                    have e143 : a.tmps[143]?.getD undef = .int .i64 1 := (ev a 143).symm.trans (hD _ (Array.mem_of_getElem? (i := 0) rfl) rfl)
                    clear hF hD
                    go_simp
                  · refine chain_is _ rfl ⟨_, rfl⟩ (by kernel_rfl) rfl ?_
                    intro a W k l0 h0 A0 hF hD
                    have e144 : a.tmps[144]?.getD undef = .int .i64 0 := (ev a 144).symm.trans (hD _ (Array.mem_of_getElem? (i := 0) rfl) rfl)
                    have e15 : a.tmps[15]?.getD undef = _ := (ev a 15).symm.trans (hF 15 (by kernel_rfl))
                    clear hF hD
                    go_simp
                  · refine chain_is _ rfl ⟨_, rfl⟩ (by kernel_rfl) rfl ?_
                    intro a W k l0 h0 A0 hF hD
                    have e145 : a.tmps[145]?.getD undef = .pointer (some ⟨BG, 0, none⟩) := (ev a 145).symm.trans (hD _ (Array.mem_of_getElem? (i := 0) rfl) rfl)
                    clear hF hD
                    have cB := (takeA_BG (rfl : _ = some (blkT BG 38 #[.slice aG g0.length cG, vg1])) (by decide) (by simp only [List.length_map, List.length_take]; omega) A0).cell 0
                    simp only [List.size_toArray, List.length_cons, List.length_nil, List.getElem?_toArray, List.getElem?_cons_zero, List.getElem?_cons_succ] at cB
                    go_simp
                  · refine chain_is _ rfl ⟨_, rfl⟩ (by kernel_rfl) rfl ?_
                    intro a W k l0 h0 A0 hF hD
                    have k0 : k = 0 := Nat.le_antisymm h0 l0
                    subst k0
                    clear l0 h0
                    have e20 : a.tmps[20]?.getD undef = _ := (ev a 20).symm.trans (hF 20 (by kernel_rfl))
                    clear hF hD
                    go_simp
                  · refine chain_is _ rfl ⟨_, rfl⟩ (by kernel_rfl) rfl ?_
                    intro a W k l0 h0 A0 hF hD
                    have k0 : k = 0 := Nat.le_antisymm h0 l0
                    subst k0
                    clear l0 h0
                    have e147 : a.tmps[147]?.getD undef = .int .i64 1 := (ev a 147).symm.trans (hD _ (Array.mem_of_getElem? (i := 0) rfl) rfl)
                    clear hF hD
                    go_simp
                  · refine chain_is _ rfl ⟨_, rfl⟩ (by kernel_rfl) rfl ?_
                    intro a W k l0 h0 A0 hF hD
                    have k0 : k = 0 := Nat.le_antisymm h0 l0
                    subst k0
                    clear l0 h0
                    have e148 : a.tmps[148]?.getD undef = .int .i64 0 := (ev a 148).symm.trans (hD _ (Array.mem_of_getElem? (i := 0) rfl) rfl)
                    have e13 : a.tmps[13]?.getD undef = _ := (ev a 13).symm.trans (hF 13 (by kernel_rfl))
                    clear hF hD
                    go_simp
                  · refine chain_is _ rfl ⟨_, rfl⟩ (by kernel_rfl) rfl ?_
                    intro a W k l0 h0 A0 hF hD
                    have k0 : k = 0 := Nat.le_antisymm h0 l0
                    subst k0
                    clear l0 h0
                    have e149 : a.tmps[149]?.getD undef = .pointer (some ⟨BE, 0, none⟩) := (ev a 149).symm.trans (hD _ (Array.mem_of_getElem? (i := 0) rfl) rfl)
                    clear hF hD
                    have A1 : Sep _ _ _ := A0
                    have cB := (A1.get 3 rfl : Blk _ _ _ _).cell 0
                    simp only [List.size_toArray, List.length_cons, List.length_nil, List.getElem?_toArray, List.getElem?_cons_zero, List.getElem?_cons_succ] at cB
                    go_simp
                  · refine chain_is _ rfl ⟨_, rfl⟩ (by kernel_rfl) rfl ?_
                    intro a W k l0 h0 A0 hF hD
                    have k0 : k = 0 := Nat.le_antisymm h0 l0
                    subst k0
                    clear l0 h0
                    have e23 : a.tmps[23]?.getD undef = _ := (ev a 23).symm.trans (hF 23 (by kernel_rfl))
                    clear hF hD
                    have A1 : Sep _ _ _ := A0
                    have cB0 := (A1.get 0 rfl : Blk _ _ _ _).cell 0
                    have cB1 := (A1.get 0 rfl : Blk _ _ _ _).cell 1
                    have cB2 := (A1.get 0 rfl : Blk _ _ _ _).cell 2
                    simp only [List.size_toArray, List.length_cons, List.length_nil, List.getElem?_toArray, List.getElem?_cons_zero, List.getElem?_cons_succ] at cB0 cB1 cB2
                    go_simp
                  · refine chain_call rfl ⟨_, rfl⟩ (by kernel_rfl) ?_
                    intro a W k l0 h0 A0 hF hD
                    have k0 : k = 0 := Nat.le_antisymm h0 l0
                    subst k0
                    clear l0 h0
                    have e150 : a.tmps[150]?.getD undef = .pointer (some ⟨b0, 0, none⟩) := (ev a 150).symm.trans (hD _ (Array.mem_of_getElem? (i := 0) rfl) rfl)
                    have e151 : a.tmps[151]?.getD undef = .agg #[.int .i64 x.ns, .int .i64 x.nr, .string x.body] := (ev a 151).symm.trans (hD _ (Array.mem_of_getElem? (i := 1) rfl) rfl)
                    clear hF hD
                    have A1 : Sep _ _ _ := A0
                    refine ⟨_, _, by (go_simp; first | done | rfl | exact ⟨rfl, rfl⟩), ?_⟩
                    refine (take_at (A1.get 1 rfl) x.ns x.nr x.body (by omega)).mono ?_
                    rintro e w3 ⟨⟨v3, p3, rfl, q3, r3⟩, h3, u3⟩
                    exact ⟨_, rfl, trivial, p3, A1.set_cons 1 rfl u3 (fun x hx => .inl hx) (t' := ctlT _ _ o0) h3 (fun x hx => .inl hx) (s := ownT 9 1 v3 _ _ p3) q3 r3 (fun k hk hk2 => by have h1 := r3 k hk; have h2 := (A1.get 1 rfl : CtlAt _ _ _ _).lt k hk2; omega)⟩
                  · refine chain_run rfl ⟨_, rfl⟩ (by kernel_rfl) ?_
                    intro a W k l0 h0 A0 hF hD
                    have k0 : k = 1 := Nat.le_antisymm h0 l0
                    subst k0
                    clear l0 h0
                    have e146 : a.tmps[146]?.getD undef = .slice aG g0.length cG := (ev a 146).symm.trans (hD _ (Array.mem_of_getElem? (i := 0) rfl) rfl)
                    clear hF hD
                    obtain ⟨p3, A1⟩ := A0
                    have HR := (A1.get 0 rfl : Own _ _ _ _ _ _ _).texts
                    have A2 := A1.drop
                    have HO := (A2.get 9 rfl : Own _ _ _ _ _ _ _)
                    have hT := C.take_len2 c0 x.ns x.nr x.body
                    obtain ⟨ao1, cap1, w5, own1, hrun, ho1, hin1, hu5⟩ := run_append_Rd (P := Try.prog) W 27 27 9 i0 _ 1 16 Try.underlying27 hi0 hz0 hz1 hz2 rfl (by decide) _ g0.length _ _ HO _ _ _ HR (by simp only [maxLen]; omega) (by omega)
                    exact ⟨_, w5, exec_append rfl ((ev a 146).trans e146) rfl hrun, trivial, own1, A2.set 9 rfl hu5 (fun x hx => .inl hx) (t' := ownT 9 1 _ (g0 ++ (c0.take x.ns x.nr x.body).2).length (strs (g0 ++ (c0.take x.ns x.nr x.body).2)) own1) (by simpa [strs, ownT] using ho1) hin1⟩
                  · refine chain_is _ rfl ⟨_, rfl⟩ (by kernel_rfl) rfl ?_
                    intro a W k l0 h0 A0 hF hD
                    have k0 : k = 2 := Nat.le_antisymm h0 l0
                    subst k0
                    clear l0 h0
                    have e142 : a.tmps[142]?.getD undef = .int .i64 0 := (ev a 142).symm.trans (hD _ (Array.mem_of_getElem? (i := 0) rfl) rfl)
                    have e15 : a.tmps[15]?.getD undef = _ := (ev a 15).symm.trans (hF 15 (by kernel_rfl))
                    clear hF hD
                    go_simp
                  · refine chain_set rfl rfl (by kernel_rfl) trivial ?_
                    intro a W k l0 h0 A0 hF hD
                    have k0 : k = 2 := Nat.le_antisymm h0 l0
                    subst k0
                    clear l0 h0
                    have e154 : a.tmps[154]?.getD undef = .pointer (some ⟨BG, 0, none⟩) := (ev a 154).symm.trans (hD _ (Array.mem_of_getElem? (i := 0) rfl) rfl)
                    clear hF hD
                    obtain ⟨own1, A1⟩ := A0
                    obtain ⟨ao1, cap1, hv, -, -⟩ := (A1.get 9 rfl : Own _ _ _ _ _ _ _).shape
                    rw [List.length_append] at hv
                    have e153 : a.tmps[153]?.getD undef = _ := (ev a 153).symm.trans hv
                    have cB := (A1.get 5 rfl : Blk _ _ _ _).cell 0
                    have fB := (A1.get 5 rfl : Blk _ _ _ _).frozen 0
                    simp only [List.size_toArray, List.length_cons, List.length_nil, List.getElem?_toArray, List.getElem?_cons_zero, List.getElem?_cons_succ] at cB
                    have hb := (A1.get 5 rfl : Blk _ _ _ _).set_ 0 (Value.slice ao1 (g0.length + (c0.take x.ns x.nr x.body).2.length) cap1)
                    refine ⟨_, by (go_simp; first | done | rfl | exact ⟨rfl, rfl⟩), own1, A1.set 5 rfl ((Upd.refl [BG] _).setCell _ (.inl (by simp))) (fun x hx => .inl hx) (t' := blkT BG 38 _) ?_ (fun x hx => .inl hx)⟩
                    rw [show leftAt _ a 12 = Value.slice ao1 (g0.length + (c0.take x.ns x.nr x.body).2.length) cap1 from hv]
                    exact hb
                intro vals W hv hA
                have v0 : vals 0 = .int .i64 1 := hv 0 (by decide)
                have v1 : vals 1 = .int .i64 0 := hv 1 (by decide)
                have v2 : vals 2 = .int .i64 1 := hv 2 (by decide)
                have v3 : vals 3 = .int .i64 0 := hv 3 (by decide)
                have v4 : vals 4 = .pointer (some ⟨BG, 0, none⟩) := hv 4 (by decide)
                have v5 : vals 5 = .slice aG g0.length cG := hv 5 (by decide)
                have v6 : vals 6 = .int .i64 1 := hv 6 (by decide)
                have v7 : vals 7 = .int .i64 0 := hv 7 (by decide)
                have v8 : vals 8 = .pointer (some ⟨BE, 0, none⟩) := hv 8 (by decide)
                have v9 : vals 9 = .pointer (some ⟨b0, 0, none⟩) := hv 9 (by decide)
                have v10 : vals 10 = .agg #[.int .i64 x.ns, .int .i64 x.nr, .string x.body] := hv 10 (by decide)
                have v13 : vals 13 = .pointer (some ⟨BG, 0, none⟩) := hv 13 (by decide)
                clear hv
                obtain ⟨own1, A1⟩ := hA
                have SP3 := Lib.hid A1
                clear A1
                generalize vals 12 = v12 at *
                simp only [putAll, Act.put, Nat.zero_add, Nat.reduceAdd, v0, v1, v2, v3, v4, v5, v6, v7, v8, v9, v10, v13, List.setIfInBounds_toArray, List.set_cons_zero, List.set_cons_succ]
                clear v0 v1 v2 v3 v4 v5 v6 v7 v8 v9 v10 v13
                go_wp2_with fail
                go_meet
                case rel =>
                  exact ⟨at_, rfl, by omega, ⟨⟨(c0.take x.ns x.nr x.body).1, c1, s0, s1, (g0 ++ (c0.take x.ns x.nr x.body).2), g1, y0, (y1.take kk ++ y1.drop (kk + 1)), vs0, vs1, v12, vg1, vy0, v15, o0, o1, os0, os1, own1, og1, oy0, ownY, SP3.out.drop, ((BO.out.swap.take HX.out).sub (cut_sub kk)).swap, by have := HY.out; have := HNY.out; simp only [List.length_append, List.length_take, List.length_drop]; omega⟩⟩⟩
          · as_aux_lemma =>
            obtain ⟨c0, c1, s0, s1, g0, g1, y0, y1, vs0, vs1, vg0, vg1, vy0, vy1, o0, o1, os0, os1, og0, og1, oy0, oy1, sp, bo, hy⟩ := HST.out.ex
            obtain ⟨aY, cY, hvY, hcY1, hcY⟩ := (sp.get 11 rfl : Own _ _ _ _ _ _ _).shape
            subst hvY
            simp only [maxLen] at hcY
            obtain ⟨nY, hnY⟩ : ∃ n, n = y1.length := ⟨_, rfl⟩
            have cB := (sp.get 5 rfl : Blk _ _ _ _).cell 1
            simp only [List.size_toArray, List.length_cons, List.length_nil, List.getElem?_toArray, List.getElem?_cons_zero, List.getElem?_cons_succ] at cB
            rw [← hnY] at cB hcY1
            have HNY := Lib.hid hnY
            have SP := Lib.hid sp
            have BO := Lib.hid bo
            have HY := Lib.hid hy
            clear sp bo hnY hy
            by_cases hy0 : nY = 0
            · subst hy0
              go_wp2_with fail
              go_roundg (n2 - (i + 1))
              case rel => exact ⟨i + 1, at_, by omega, by go_num, rfl, by omega, ⟨⟨c0, c1, s0, s1, g0, g1, y0, y1, vs0, vs1, vg0, vg1, vy0, (.slice aY y1.length cY), o0, o1, os0, os1, og0, og1, oy0, oy1, SP.out, BO.out, by have := HY.out; omega⟩⟩⟩
              case measure => omega
            · go_upto_region 19 with (fail)
              have h10 := i64_mask (P / 16) 10 (by omega)
              obtain ⟨kk, hkk, hlt⟩ : ∃ kk : Nat, (bits BinOp.and IntKind.i64 (P / 16) 1023).tmod nY = kk ∧ kk < nY := by
                rw [show (1023 : Int) = ((2 ^ 10 - 1 : Nat) : Int) from rfl, h10, Int.tmod_eq_emod_of_nonneg (by omega)]
                have h1 := Int.emod_nonneg (P / 16 % ((2 ^ 10 : Nat) : Int)) (b := (nY : Int)) (by omega)
                have h2 := Int.emod_lt_of_pos (P / 16 % ((2 ^ 10 : Nat) : Int)) (b := (nY : Int)) (by omega)
                exact ⟨((P / 16 % ((2 ^ 10 : Nat) : Int)) % (nY : Int)).toNat, by omega, by omega⟩
              rw [hkk]
              clear hkk h10
              obtain ⟨x, hx⟩ : ∃ x, y1[kk]? = some x := ⟨_, List.getElem?_eq_getElem (by have := HNY.out; omega)⟩
              obtain ⟨qY, rfl, c0_, c1_, c2_⟩ := ((SP.out.get 11 rfl : Own _ _ _ _ _ _ _).rd (items_oneCell _)).item hx
              have HX : Hid (x ∈ y1) := List.mem_of_getElem? hx
              have hxs : x.body.size ≤ 3 := BO.out.swap.small HX.out
              have SPX := Lib.hid (SP.out.cons (t := blkT wr.heap.size 30 #[.int .i64 x.ns, .int .i64 x.nr, .string x.body]) ((Upd.refl _ _).alloc _) (Blk.new _ _ _) (by simp [blkT]))
              have hkd := HKD.out
              have lY := (SP.out.get 5 rfl : Blk _ _ _ _).lt
              clear hx SP
              go_upto_region 21 with (fail)
              refine gen_world (fun V => Sep w V (blkT wr.heap.size 30 #[.int .i64 x.ns, .int .i64 x.nr, .string x.body] :: brL b0 b1 BE BS BG BY c0 c1 s0 s1 g0 g1 y0 y1 vs0 vs1 vg0 vg1 vy0 (.slice (some qY) y1.length cY) o0 o1 os0 os1 og0 og1 oy0 oy1)) SPX.out ?_
              intro W1 SP1
              clear SPX
              generalize wr.heap.size = BX at *
              have SP2 := Lib.hid SP1
              clear SP1
              clear c0_ c1_ c2_ lY
              have hkn : kk + 1 ≤ y1.length := by have := HNY.out; omega
              have hyl : y1.length ≤ 42 * 400 := by have := HY.out; omega
              have hw13 : IntKind.i64.wrap ((kk : Int) + 1) = (kk : Int) + 1 := IntWalk.i64_in _ (by omega)
              have hsl := run_prefix (P := Try.prog) 31 Try.underlying31 3 size_item (some qY) y1.length cY kk (by have := HNY.out; omega)
              obtain ⟨vT, hvT⟩ : ∃ v, v = sliced (some qY) (kk + 1) y1.length cY 3 := ⟨_, rfl⟩
              have hss := run_suffix (P := Try.prog) 31 Try.underlying31 3 size_item (some qY) y1.length cY (kk + 1) hkn vT hvT
              rw [show (((kk + 1 : Nat) : Int)) = (kk : Int) + 1 by omega] at hss
              have HVT := Lib.hid hvT
              clear hvT
              refine wp_region_chain [some (.int .i64 1), some (.int .i64 1), some (.pointer (some ⟨BY, 1, none⟩)), some (.pointer (some ⟨BY, 1, none⟩)), some (.slice (some qY) y1.length cY), some (.int .i64 kk), some (.slice (some qY) kk cY), none, some (.int .i64 1), some (.pointer (some ⟨BY, 1, none⟩)), some (.pointer (some ⟨BY, 1, none⟩)), some (.slice (some qY) y1.length cY), some (.int .i64 kk), some (.int .i64 ((kk : Int) + 1)), some (vT), none, some (.pointer (some ⟨BY, 1, none⟩)), some (.pointer (some ⟨BY, 1, none⟩)), none] [7,15,18] (cutA w (blkT BX 30 #[.int .i64 x.ns, .int .i64 x.nr, .string x.body] :: brL b0 b1 BE BS BG BY c0 c1 s0 s1 g0 g1 y0 y1 vs0 vs1 vg0 vg1 vy0 (.slice (some qY) y1.length cY) o0 o1 os0 os1 og0 og1 oy0 oy1) BY (y1.take kk) (y1.drop (kk + 1)) (fun u => #[vy0, u])) [(0, 2), (0, 0), (0, 0), (0, 0), (0, 0), (0, 0), (0, 0), (0, 0), (0, 1), (0, 1), (0, 1), (0, 1), (0, 1), (0, 1), (0, 1), (1, 1), (2, 2), (2, 2), (2, 2)] (by kernel_rfl) (by kernel_rfl) (by kernel_rfl) (by kernel_rfl) (by kernel_rfl) (by kernel_rfl) (SP2.out.keep (Upd.refl _ _).drew) ?_ ?_
              · refine StepsC.cons ?_ (StepsC.cons ?_ (StepsC.cons ?_ (StepsC.cons ?_ (StepsC.cons ?_ (StepsC.cons ?_ (StepsC.cons ?_ (StepsC.cons ?_ (StepsC.cons ?_ (StepsC.cons ?_ (StepsC.cons ?_ (StepsC.cons ?_ (StepsC.cons ?_ (StepsC.cons ?_ (StepsC.cons ?_ (StepsC.cons ?_ (StepsC.cons ?_ (StepsC.cons ?_ (StepsC.cons ?_ StepsC.nil))))))))))))))))))
                · refine chain_is _ rfl ⟨_, rfl⟩ (by kernel_rfl) rfl ?_
                  intro a W k l0 h0 A0 hF hD
                  have e20 : a.tmps[20]?.getD undef = _ := (ev a 20).symm.trans (hF 20 (by kernel_rfl))
                  clear hF hD
                  go_simp
                · refine chain_is _ rfl ⟨_, rfl⟩ (by kernel_rfl) rfl ?_
                  intro a W k l0 h0 A0 hF hD
                  have k0 : k = 0 := Nat.le_antisymm h0 l0
                  subst k0
                  clear l0 h0
                  have e20 : a.tmps[20]?.getD undef = _ := (ev a 20).symm.trans (hF 20 (by kernel_rfl))
                  clear hF hD
                  go_simp
                · refine chain_is _ rfl ⟨_, rfl⟩ (by kernel_rfl) rfl ?_
                  intro a W k l0 h0 A0 hF hD
                  have k0 : k = 0 := Nat.le_antisymm h0 l0
                  subst k0
                  clear l0 h0
                  have e120 : a.tmps[120]?.getD undef = .int .i64 1 := (ev a 120).symm.trans (hD _ (Array.mem_of_getElem? (i := 0) rfl) rfl)
                  have e16 : a.tmps[16]?.getD undef = _ := (ev a 16).symm.trans (hF 16 (by kernel_rfl))
                  clear hF hD
                  go_simp
                · refine chain_is _ rfl ⟨_, rfl⟩ (by kernel_rfl) rfl ?_
                  intro a W k l0 h0 A0 hF hD
                  have k0 : k = 0 := Nat.le_antisymm h0 l0
                  subst k0
                  clear l0 h0
                  have e121 : a.tmps[121]?.getD undef = .pointer (some ⟨BY, 1, none⟩) := (ev a 121).symm.trans (hD _ (Array.mem_of_getElem? (i := 0) rfl) rfl)
                  clear hF hD
                  go_simp
                · refine chain_is _ rfl ⟨_, rfl⟩ (by kernel_rfl) rfl ?_
                  intro a W k l0 h0 A0 hF hD
                  have k0 : k = 0 := Nat.le_antisymm h0 l0
                  subst k0
                  clear l0 h0
                  have e122 : a.tmps[122]?.getD undef = .pointer (some ⟨BY, 1, none⟩) := (ev a 122).symm.trans (hD _ (Array.mem_of_getElem? (i := 0) rfl) rfl)
                  clear hF hD
                  have A1 : Sep _ _ _ := A0
                  have cB := (A1.get 6 rfl : Blk _ _ _ _).cell 1
                  simp only [List.size_toArray, List.length_cons, List.length_nil, List.getElem?_toArray, List.getElem?_cons_zero, List.getElem?_cons_succ] at cB
                  go_simp
                · refine chain_is _ rfl ⟨_, rfl⟩ (by kernel_rfl) rfl ?_
                  intro a W k l0 h0 A0 hF hD
                  have k0 : k = 0 := Nat.le_antisymm h0 l0
                  subst k0
                  clear l0 h0
                  have e22 : a.tmps[22]?.getD undef = _ := (ev a 22).symm.trans (hF 22 (by kernel_rfl))
                  clear hF hD
                  go_simp
                · refine chain_is _ rfl ⟨_, rfl⟩ (by kernel_rfl) rfl ?_
                  intro a W k l0 h0 A0 hF hD
                  have k0 : k = 0 := Nat.le_antisymm h0 l0
                  subst k0
                  clear l0 h0
                  have e123 : a.tmps[123]?.getD undef = .slice (some qY) y1.length cY := (ev a 123).symm.trans (hD _ (Array.mem_of_getElem? (i := 0) rfl) rfl)
                  have e124 : a.tmps[124]?.getD undef = .int .i64 kk := (ev a 124).symm.trans (hD _ (Array.mem_of_getElem? (i := 1) rfl) rfl)
                  clear hF hD
                  go_simp
                · refine chain_run rfl ⟨_, rfl⟩ (by kernel_rfl) ?_
                  intro a W k l0 h0 A0 hF hD
                  have k0 : k = 0 := Nat.le_antisymm h0 l0
                  subst k0
                  clear l0 h0
                  have e125 : a.tmps[125]?.getD undef = .slice (some qY) kk cY := (ev a 125).symm.trans (hD _ (Array.mem_of_getElem? (i := 0) rfl) rfl)
                  clear hF hD
                  have A1 : Sep _ _ _ := A0
                  have HR0 := ((A1.get 12 rfl : Own _ _ _ _ _ _ _).rd (items_oneCell _)).cut (m := kk) (by omega)
                  rw [← items_take] at HR0
                  obtain ⟨ao1, cap1, w5, own1, hrun, ho1, hin1, hu5⟩ := run_append_Rd (P := Try.prog) W 31 31 30 j0 _ 3 32 Try.underlying31 ji0 jz0 jz1 jz2 rfl (by decide) _ 0 _ _ (Own.nil _ _ _) _ _ _ HR0 (by simp only [maxLen]; omega) (by omega)
                  exact ⟨_, w5, exec_append rfl rfl ((ev a 125).trans e125) hrun, trivial, own1, A1.cons (t := ownT 30 3 _ (y1.take kk).length (items (y1.take kk)) own1) hu5 (by have hl : 0 + kk = (y1.take kk).length := (by rw [List.length_take]; omega); rw [← hl]; simpa [ownT] using ho1) (fun k hk => (hin1 k hk).resolve_left (by simp))⟩
                · refine chain_is _ rfl ⟨_, rfl⟩ (by kernel_rfl) rfl ?_
                  intro a W k l0 h0 A0 hF hD
                  have e20 : a.tmps[20]?.getD undef = _ := (ev a 20).symm.trans (hF 20 (by kernel_rfl))
                  clear hF hD
                  go_simp
                · refine chain_is _ rfl ⟨_, rfl⟩ (by kernel_rfl) rfl ?_
                  intro a W k l0 h0 A0 hF hD
                  have e127 : a.tmps[127]?.getD undef = .int .i64 1 := (ev a 127).symm.trans (hD _ (Array.mem_of_getElem? (i := 0) rfl) rfl)
                  have e16 : a.tmps[16]?.getD undef = _ := (ev a 16).symm.trans (hF 16 (by kernel_rfl))
                  clear hF hD
                  go_simp
                · refine chain_is _ rfl ⟨_, rfl⟩ (by kernel_rfl) rfl ?_
                  intro a W k l0 h0 A0 hF hD
                  have e128 : a.tmps[128]?.getD undef = .pointer (some ⟨BY, 1, none⟩) := (ev a 128).symm.trans (hD _ (Array.mem_of_getElem? (i := 0) rfl) rfl)
                  clear hF hD
                  go_simp
                · refine chain_is _ rfl ⟨_, rfl⟩ (by kernel_rfl) rfl ?_
                  intro a W k l0 h0 A0 hF hD
                  have e129 : a.tmps[129]?.getD undef = .pointer (some ⟨BY, 1, none⟩) := (ev a 129).symm.trans (hD _ (Array.mem_of_getElem? (i := 0) rfl) rfl)
                  clear hF hD
                  have A1 := cutA_L (by simp only [List.length_map, List.length_take]; omega) A0
                  have cB := (A1.get 6 rfl : Blk _ _ _ _).cell 1
                  simp only [List.size_toArray, List.length_cons, List.length_nil, List.getElem?_toArray, List.getElem?_cons_zero, List.getElem?_cons_succ] at cB
                  go_simp
                · refine chain_is _ rfl ⟨_, rfl⟩ (by kernel_rfl) rfl ?_
                  intro a W k l0 h0 A0 hF hD
                  have e22 : a.tmps[22]?.getD undef = _ := (ev a 22).symm.trans (hF 22 (by kernel_rfl))
                  clear hF hD
                  go_simp
                · refine chain_is _ rfl ⟨_, rfl⟩ (by kernel_rfl) rfl ?_
                  intro a W k l0 h0 A0 hF hD
                  have e131 : a.tmps[131]?.getD undef = .int .i64 kk := (ev a 131).symm.trans (hD _ (Array.mem_of_getElem? (i := 0) rfl) rfl)
                  clear hF hD
                  go_simp
                · refine chain_is _ rfl ⟨_, rfl⟩ (by kernel_rfl) rfl ?_
                  intro a W k l0 h0 A0 hF hD
                  have e130 : a.tmps[130]?.getD undef = .slice (some qY) y1.length cY := (ev a 130).symm.trans (hD _ (Array.mem_of_getElem? (i := 0) rfl) rfl)
                  have e132 : a.tmps[132]?.getD undef = .int .i64 ((kk : Int) + 1) := (ev a 132).symm.trans (hD _ (Array.mem_of_getElem? (i := 1) rfl) rfl)
                  clear hF hD
                  go_simp
                · refine chain_run rfl ⟨_, rfl⟩ (by kernel_rfl) ?_
                  intro a W k l0 h0 A0 hF hD
                  have k0 : k = 1 := Nat.le_antisymm h0 l0
                  subst k0
                  clear l0 h0
                  have e133 : a.tmps[133]?.getD undef = vT := (ev a 133).symm.trans (hD _ (Array.mem_of_getElem? (i := 1) rfl) rfl)
                  clear hF hD
                  obtain ⟨p3, A1⟩ := A0
                  have HR0 := ((A1.get 13 rfl : Own _ _ _ _ _ _ _).rd (items_oneCell _)).tail (m := kk + 1) hkn
                  rw [← items_drop, ← HVT.out] at HR0
                  have HO := (A1.get 0 rfl : Own _ _ _ _ _ _ _)
                  have hlt2 : (y1.take kk).length ≤ 42 * 400 := by rw [List.length_take]; omega
                  obtain ⟨ao1, cap1, w5, own1, hrun, ho1, hin1, hu5⟩ := run_append_Rd (P := Try.prog) W 31 31 30 j0 _ 3 32 Try.underlying31 ji0 jz0 jz1 jz2 rfl (by decide) _ (y1.take kk).length _ _ HO _ _ _ HR0 (by simp only [maxLen]; omega) (by omega)
                  exact ⟨_, w5, exec_append rfl rfl ((ev a 133).trans e133) hrun, trivial, own1, A1.set 0 rfl hu5 (fun x hx => .inl hx) (t' := ownT 30 3 _ (y1.take kk ++ y1.drop (kk + 1)).length (items (y1.take kk ++ y1.drop (kk + 1))) own1) (by have hl : (y1.take kk).length + (y1.length - (kk + 1)) = (y1.take kk ++ y1.drop (kk + 1)).length := (by rw [List.length_append, List.length_drop]); rw [← hl]; have hc : items (y1.take kk ++ y1.drop (kk + 1)) = items (y1.take kk) ++ items (y1.drop (kk + 1)) := (by simp [items]); rw [hc]; exact ho1) hin1⟩
                · refine chain_is _ rfl ⟨_, rfl⟩ (by kernel_rfl) rfl ?_
                  intro a W k l0 h0 A0 hF hD
                  have k0 : k = 2 := Nat.le_antisymm h0 l0
                  subst k0
                  clear l0 h0
                  have e119 : a.tmps[119]?.getD undef = .int .i64 1 := (ev a 119).symm.trans (hD _ (Array.mem_of_getElem? (i := 0) rfl) rfl)
                  have e16 : a.tmps[16]?.getD undef = _ := (ev a 16).symm.trans (hF 16 (by kernel_rfl))
                  clear hF hD
                  go_simp
                · refine chain_is _ rfl ⟨_, rfl⟩ (by kernel_rfl) rfl ?_
                  intro a W k l0 h0 A0 hF hD
                  have k0 : k = 2 := Nat.le_antisymm h0 l0
                  subst k0
                  clear l0 h0
                  have e135 : a.tmps[135]?.getD undef = .pointer (some ⟨BY, 1, none⟩) := (ev a 135).symm.trans (hD _ (Array.mem_of_getElem? (i := 0) rfl) rfl)
                  clear hF hD
                  go_simp
                · refine chain_set rfl rfl (by kernel_rfl) trivial ?_
                  intro a W k l0 h0 A0 hF hD
                  have k0 : k = 2 := Nat.le_antisymm h0 l0
                  subst k0
                  clear l0 h0
                  have e136 : a.tmps[136]?.getD undef = .pointer (some ⟨BY, 1, none⟩) := (ev a 136).symm.trans (hD _ (Array.mem_of_getElem? (i := 0) rfl) rfl)
                  clear hF hD
                  obtain ⟨own1, A1⟩ := A0
                  obtain ⟨ao1, cap1, hv, -, -⟩ := (A1.get 0 rfl : Own _ _ _ _ _ _ _).shape
                  obtain ⟨nn, hnn⟩ : ∃ n, n = (y1.take kk ++ y1.drop (kk + 1)).length := ⟨_, rfl⟩
                  rw [← hnn] at hv
                  clear hnn
                  have e134 : a.tmps[134]?.getD undef = _ := (ev a 134).symm.trans hv
                  have cB := (A1.get 7 rfl : Blk _ _ _ _).cell 1
                  have fB := (A1.get 7 rfl : Blk _ _ _ _).frozen 1
                  simp only [List.size_toArray, List.length_cons, List.length_nil, List.getElem?_toArray, List.getElem?_cons_zero, List.getElem?_cons_succ] at cB
                  have hb := (A1.get 7 rfl : Blk _ _ _ _).set_ 1 (Value.slice ao1 nn cap1)
                  refine ⟨_, by (go_simp; first | done | rfl | exact ⟨rfl, rfl⟩), own1, A1.set 7 rfl ((Upd.refl [BY] _).setCell _ (.inl (by simp))) (fun x hx => .inl hx) (t' := blkT BY 41 _) ?_ (fun x hx => .inl hx)⟩
                  rw [show leftAt _ a 15 = Value.slice ao1 nn cap1 from hv]
                  exact hb
              intro vals W hv hA
              have v0 : vals 0 = .int .i64 1 := hv 0 (by decide)
              have v1 : vals 1 = .int .i64 1 := hv 1 (by decide)
              have v2 : vals 2 = .pointer (some ⟨BY, 1, none⟩) := hv 2 (by decide)
              have v3 : vals 3 = .pointer (some ⟨BY, 1, none⟩) := hv 3 (by decide)
              have v4 : vals 4 = .slice (some qY) y1.length cY := hv 4 (by decide)
              have v5 : vals 5 = .int .i64 kk := hv 5 (by decide)
              have v6 : vals 6 = .slice (some qY) kk cY := hv 6 (by decide)
              have v8 : vals 8 = .int .i64 1 := hv 8 (by decide)
              have v9 : vals 9 = .pointer (some ⟨BY, 1, none⟩) := hv 9 (by decide)
              have v10 : vals 10 = .pointer (some ⟨BY, 1, none⟩) := hv 10 (by decide)
              have v11 : vals 11 = .slice (some qY) y1.length cY := hv 11 (by decide)
              have v12 : vals 12 = .int .i64 kk := hv 12 (by decide)
              have v13 : vals 13 = .int .i64 ((kk : Int) + 1) := hv 13 (by decide)
              have v14 : vals 14 = vT := hv 14 (by decide)
              have v16 : vals 16 = .pointer (some ⟨BY, 1, none⟩) := hv 16 (by decide)
              have v17 : vals 17 = .pointer (some ⟨BY, 1, none⟩) := hv 17 (by decide)
              clear hv
              obtain ⟨ownY, A1⟩ := hA
              clear SP2
              have SP2 := Lib.hid (A1.move 12)
              clear A1 hsl hss
              generalize vals 15 = v15 at *
              simp only [putAll, Act.put, Nat.zero_add, Nat.reduceAdd, v0, v1, v2, v3, v4, v5, v6, v8, v9, v10, v11, v12, v13, v14, v16, v17, List.setIfInBounds_toArray, List.set_cons_zero, List.set_cons_succ]
              clear v0 v1 v2 v3 v4 v5 v6 v8 v9 v10 v11 v12 v13 v14 v16 v17
              go_upto_region 22 with (fail)
              by_cases tl : bits BinOp.and IntKind.i64 (P / 16384) 3 = 0
              · go_wp2_with fail
                go_meet
                case rel => exact ⟨at_, rfl, by omega, ⟨⟨c0, c1, s0, s1, g0, g1, y0, (y1.take kk ++ y1.drop (kk + 1)), vs0, vs1, vg0, vg1, vy0, v15, o0, o1, os0, os1, og0, og1, oy0, ownY, SP2.out.drop, (BO.out.swap.sub (cut_sub kk)).swap, by have := HY.out; have := HNY.out; simp only [List.length_append, List.length_take, List.length_drop]; omega⟩⟩⟩
              · have tl2 : ((bits BinOp.and IntKind.i64 (P / 16384) 3) != 0) = true := by simpa using tl
                go_upto_region 23 with (fail)
                obtain ⟨aG, cG, hvG, -, hcG⟩ := (SP2.out.get 9 rfl : Own _ _ _ _ _ _ _).shape
                subst hvG
                simp only [maxLen] at hcG
                have hgl : g0.length ≤ 60 := by have h1 := BO.out.good; have h2 := BO.out.few; have h3 := BO.out.n60; omega
                have hw1 : IntKind.i64.wrap 0 = 0 := by rfl
                clear tl tl2 hkd
                refine wp_region_chain [some (.int .i64 1), some (.int .i64 0), some (.int .i64 1), some (.int .i64 0), some (.pointer (some ⟨BG, 0, none⟩)), some (.slice aG g0.length cG), some (.int .i64 1), some (.int .i64 0), some (.pointer (some ⟨BE, 0, none⟩)), some (.pointer (some ⟨b0, 0, none⟩)), some (.agg #[.int .i64 x.ns, .int .i64 x.nr, .string x.body]), none, none, some (.pointer (some ⟨BG, 0, none⟩)), none] [11,12,14] (takeA w (blkT BX 30 #[.int .i64 x.ns, .int .i64 x.nr, .string x.body] :: brL b0 b1 BE BS BG BY c0 c1 s0 s1 g0 g1 y0 (y1.take kk ++ y1.drop (kk + 1)) vs0 vs1 (.slice aG g0.length cG) vg1 vy0 v15 o0 o1 os0 os1 og0 og1 oy0 ownY) 0 b0 BG c0 x g0 o0 (fun u => #[u, vg1])) [(0, 2), (0, 2), (0, 1), (0, 1), (0, 1), (0, 1), (0, 0), (0, 0), (0, 0), (0, 0), (0, 0), (0, 0), (1, 1), (2, 2), (2, 2)] (by kernel_rfl) (by kernel_rfl) (by kernel_rfl) (by kernel_rfl) (by kernel_rfl) (by kernel_rfl) (SP2.out.keep (Upd.refl _ _).drew) ?_ ?_
                · refine StepsC.cons ?_ (StepsC.cons ?_ (StepsC.cons ?_ (StepsC.cons ?_ (StepsC.cons ?_ (StepsC.cons ?_ (StepsC.cons ?_ (StepsC.cons ?_ (StepsC.cons ?_ (StepsC.cons ?_ (StepsC.cons ?_ (StepsC.cons ?_ (StepsC.cons ?_ (StepsC.cons ?_ (StepsC.cons ?_ StepsC.nil))))))))))))))
                  · refine chain_is _ rfl ⟨_, rfl⟩ (by kernel_rfl) rfl ?_
                    intro a W k l0 h0 A0 hF hD
                    have e20 : a.tmps[20]?.getD undef = _ := (ev a 20).symm.trans (hF 20 (by kernel_rfl))
                    clear hF hD
                    go_simp
                  · refine chain_is _ rfl ⟨_, rfl⟩ (by kernel_rfl) rfl ?_
                    intro a W k l0 h0 A0 hF hD
                    have e141 : a.tmps[141]?.getD undef = .int .i64 1 := (ev a 141).symm.trans (hD _ (Array.mem_of_getElem? (i := 0) rfl) rfl)
                    clear hF hD
                    go_simp
                  · refine chain_is _ rfl ⟨_, rfl⟩ (by kernel_rfl) rfl ?_
                    intro a W k l0 h0 A0 hF hD
                    have e20 : a.tmps[20]?.getD undef = _ := (ev a 20).symm.trans (hF 20 (by kernel_rfl))
                    clear hF hD
                    go_simp
                  · refine chain_is _ rfl ⟨_, rfl⟩ (by kernel_rfl) rfl ?_
                    intro a W k l0 h0 A0 hF hD
                    have e143 : a.tmps[143]?.getD undef = .int .i64 1 := (ev a 143).symm.trans (hD _ (Array.mem_of_getElem? (i := 0) rfl) rfl)
                    clear hF hD
                    go_simp
                  · refine chain_is _ rfl ⟨_, rfl⟩ (by kernel_rfl) rfl ?_
                    intro a W k l0 h0 A0 hF hD
                    have e144 : a.tmps[144]?.getD undef = .int .i64 0 := (ev a 144).symm.trans (hD _ (Array.mem_of_getElem? (i := 0) rfl) rfl)
                    have e15 : a.tmps[15]?.getD undef = _ := (ev a 15).symm.trans (hF 15 (by kernel_rfl))
                    clear hF hD
                    go_simp
                  · refine chain_is _ rfl ⟨_, rfl⟩ (by kernel_rfl) rfl ?_
                    intro a W k l0 h0 A0 hF hD
                    have e145 : a.tmps[145]?.getD undef = .pointer (some ⟨BG, 0, none⟩) := (ev a 145).symm.trans (hD _ (Array.mem_of_getElem? (i := 0) rfl) rfl)
                    clear hF hD
                    have cB := (takeA_BG (rfl : _ = some (blkT BG 38 #[.slice aG g0.length cG, vg1])) (by decide) (by simp only [List.length_map, List.length_take]; omega) A0).cell 0
                    simp only [List.size_toArray, List.length_cons, List.length_nil, List.getElem?_toArray, List.getElem?_cons_zero, List.getElem?_cons_succ] at cB
                    go_simp
                  · refine chain_is _ rfl ⟨_, rfl⟩ (by kernel_rfl) rfl ?_
                    intro a W k l0 h0 A0 hF hD
                    have k0 : k = 0 := Nat.le_antisymm h0 l0
                    subst k0
                    clear l0 h0
                    have e20 : a.tmps[20]?.getD undef = _ := (ev a 20).symm.trans (hF 20 (by kernel_rfl))
                    clear hF hD
                    go_simp
                  · refine chain_is _ rfl ⟨_, rfl⟩ (by kernel_rfl) rfl ?_
                    intro a W k l0 h0 A0 hF hD
                    have k0 : k = 0 := Nat.le_antisymm h0 l0
                    subst k0
                    clear l0 h0
                    have e147 : a.tmps[147]?.getD undef = .int .i64 1 := (ev a 147).symm.trans (hD _ (Array.mem_of_getElem? (i := 0) rfl) rfl)
                    clear hF hD
                    go_simp
                  · refine chain_is _ rfl ⟨_, rfl⟩ (by kernel_rfl) rfl ?_
                    intro a W k l0 h0 A0 hF hD
                    have k0 : k = 0 := Nat.le_antisymm h0 l0
                    subst k0
                    clear l0 h0
                    have e148 : a.tmps[148]?.getD undef = .int .i64 0 := (ev a 148).symm.trans (hD _ (Array.mem_of_getElem? (i := 0) rfl) rfl)
                    have e13 : a.tmps[13]?.getD undef = _ := (ev a 13).symm.trans (hF 13 (by kernel_rfl))
                    clear hF hD
                    go_simp
                  · refine chain_is _ rfl ⟨_, rfl⟩ (by kernel_rfl) rfl ?_
                    intro a W k l0 h0 A0 hF hD
                    have k0 : k = 0 := Nat.le_antisymm h0 l0
                    subst k0
                    clear l0 h0
                    have e149 : a.tmps[149]?.getD undef = .pointer (some ⟨BE, 0, none⟩) := (ev a 149).symm.trans (hD _ (Array.mem_of_getElem? (i := 0) rfl) rfl)
                    clear hF hD
                    have A1 : Sep _ _ _ := A0
                    have cB := (A1.get 3 rfl : Blk _ _ _ _).cell 0
                    simp only [List.size_toArray, List.length_cons, List.length_nil, List.getElem?_toArray, List.getElem?_cons_zero, List.getElem?_cons_succ] at cB
                    go_simp
                  · refine chain_is _ rfl ⟨_, rfl⟩ (by kernel_rfl) rfl ?_
                    intro a W k l0 h0 A0 hF hD
                    have k0 : k = 0 := Nat.le_antisymm h0 l0
                    subst k0
                    clear l0 h0
                    have e23 : a.tmps[23]?.getD undef = _ := (ev a 23).symm.trans (hF 23 (by kernel_rfl))
                    clear hF hD
                    have A1 : Sep _ _ _ := A0
                    have cB0 := (A1.get 0 rfl : Blk _ _ _ _).cell 0
                    have cB1 := (A1.get 0 rfl : Blk _ _ _ _).cell 1
                    have cB2 := (A1.get 0 rfl : Blk _ _ _ _).cell 2
                    simp only [List.size_toArray, List.length_cons, List.length_nil, List.getElem?_toArray, List.getElem?_cons_zero, List.getElem?_cons_succ] at cB0 cB1 cB2
                    go_simp
                  · refine chain_call rfl ⟨_, rfl⟩ (by kernel_rfl) ?_
                    intro a W k l0 h0 A0 hF hD
                    have k0 : k = 0 := Nat.le_antisymm h0 l0
                    subst k0
                    clear l0 h0
                    have e150 : a.tmps[150]?.getD undef = .pointer (some ⟨b0, 0, none⟩) := (ev a 150).symm.trans (hD _ (Array.mem_of_getElem? (i := 0) rfl) rfl)
                    have e151 : a.tmps[151]?.getD undef = .agg #[.int .i64 x.ns, .int .i64 x.nr, .string x.body] := (ev a 151).symm.trans (hD _ (Array.mem_of_getElem? (i := 1) rfl) rfl)
                    clear hF hD
                    have A1 : Sep _ _ _ := A0
                    refine ⟨_, _, by (go_simp; first | done | rfl | exact ⟨rfl, rfl⟩), ?_⟩
                    refine (take_at (A1.get 1 rfl) x.ns x.nr x.body (by omega)).mono ?_
                    rintro e w3 ⟨⟨v3, p3, rfl, q3, r3⟩, h3, u3⟩
                    exact ⟨_, rfl, trivial, p3, A1.set_cons 1 rfl u3 (fun x hx => .inl hx) (t' := ctlT _ _ o0) h3 (fun x hx => .inl hx) (s := ownT 9 1 v3 _ _ p3) q3 r3 (fun k hk hk2 => by have h1 := r3 k hk; have h2 := (A1.get 1 rfl : CtlAt _ _ _ _).lt k hk2; omega)⟩
                  · refine chain_run rfl ⟨_, rfl⟩ (by kernel_rfl) ?_
                    intro a W k l0 h0 A0 hF hD
                    have k0 : k = 1 := Nat.le_antisymm h0 l0
                    subst k0
                    clear l0 h0
                    have e146 : a.tmps[146]?.getD undef = .slice aG g0.length cG := (ev a 146).symm.trans (hD _ (Array.mem_of_getElem? (i := 0) rfl) rfl)
                    clear hF hD
                    obtain ⟨p3, A1⟩ := A0
                    have HR := (A1.get 0 rfl : Own _ _ _ _ _ _ _).texts
                    have A2 := A1.drop
                    have HO := (A2.get 9 rfl : Own _ _ _ _ _ _ _)
                    have hT := C.take_len2 c0 x.ns x.nr x.body
                    obtain ⟨ao1, cap1, w5, own1, hrun, ho1, hin1, hu5⟩ := run_append_Rd (P := Try.prog) W 27 27 9 i0 _ 1 16 Try.underlying27 hi0 hz0 hz1 hz2 rfl (by decide) _ g0.length _ _ HO _ _ _ HR (by simp only [maxLen]; omega) (by omega)
                    exact ⟨_, w5, exec_append rfl ((ev a 146).trans e146) rfl hrun, trivial, own1, A2.set 9 rfl hu5 (fun x hx => .inl hx) (t' := ownT 9 1 _ (g0 ++ (c0.take x.ns x.nr x.body).2).length (strs (g0 ++ (c0.take x.ns x.nr x.body).2)) own1) (by simpa [strs, ownT] using ho1) hin1⟩
                  · refine chain_is _ rfl ⟨_, rfl⟩ (by kernel_rfl) rfl ?_
                    intro a W k l0 h0 A0 hF hD
                    have k0 : k = 2 := Nat.le_antisymm h0 l0
                    subst k0
                    clear l0 h0
                    have e142 : a.tmps[142]?.getD undef = .int .i64 0 := (ev a 142).symm.trans (hD _ (Array.mem_of_getElem? (i := 0) rfl) rfl)
                    have e15 : a.tmps[15]?.getD undef = _ := (ev a 15).symm.trans (hF 15 (by kernel_rfl))
                    clear hF hD
                    go_simp
                  · refine chain_set rfl rfl (by kernel_rfl) trivial ?_
                    intro a W k l0 h0 A0 hF hD
                    have k0 : k = 2 := Nat.le_antisymm h0 l0
                    subst k0
                    clear l0 h0
                    have e154 : a.tmps[154]?.getD undef = .pointer (some ⟨BG, 0, none⟩) := (ev a 154).symm.trans (hD _ (Array.mem_of_getElem? (i := 0) rfl) rfl)
                    clear hF hD
                    obtain ⟨own1, A1⟩ := A0
                    obtain ⟨ao1, cap1, hv, -, -⟩ := (A1.get 9 rfl : Own _ _ _ _ _ _ _).shape
                    rw [List.length_append] at hv
                    have e153 : a.tmps[153]?.getD undef = _ := (ev a 153).symm.trans hv
                    have cB := (A1.get 5 rfl : Blk _ _ _ _).cell 0
                    have fB := (A1.get 5 rfl : Blk _ _ _ _).frozen 0
                    simp only [List.size_toArray, List.length_cons, List.length_nil, List.getElem?_toArray, List.getElem?_cons_zero, List.getElem?_cons_succ] at cB
                    have hb := (A1.get 5 rfl : Blk _ _ _ _).set_ 0 (Value.slice ao1 (g0.length + (c0.take x.ns x.nr x.body).2.length) cap1)
                    refine ⟨_, by (go_simp; first | done | rfl | exact ⟨rfl, rfl⟩), own1, A1.set 5 rfl ((Upd.refl [BG] _).setCell _ (.inl (by simp))) (fun x hx => .inl hx) (t' := blkT BG 38 _) ?_ (fun x hx => .inl hx)⟩
                    rw [show leftAt _ a 12 = Value.slice ao1 (g0.length + (c0.take x.ns x.nr x.body).2.length) cap1 from hv]
                    exact hb
                intro vals W hv hA
                have v0 : vals 0 = .int .i64 1 := hv 0 (by decide)
                have v1 : vals 1 = .int .i64 0 := hv 1 (by decide)
                have v2 : vals 2 = .int .i64 1 := hv 2 (by decide)
                have v3 : vals 3 = .int .i64 0 := hv 3 (by decide)
                have v4 : vals 4 = .pointer (some ⟨BG, 0, none⟩) := hv 4 (by decide)
                have v5 : vals 5 = .slice aG g0.length cG := hv 5 (by decide)
                have v6 : vals 6 = .int .i64 1 := hv 6 (by decide)
                have v7 : vals 7 = .int .i64 0 := hv 7 (by decide)
                have v8 : vals 8 = .pointer (some ⟨BE, 0, none⟩) := hv 8 (by decide)
                have v9 : vals 9 = .pointer (some ⟨b0, 0, none⟩) := hv 9 (by decide)
                have v10 : vals 10 = .agg #[.int .i64 x.ns, .int .i64 x.nr, .string x.body] := hv 10 (by decide)
                have v13 : vals 13 = .pointer (some ⟨BG, 0, none⟩) := hv 13 (by decide)
                clear hv
                obtain ⟨own1, A1⟩ := hA
                have SP3 := Lib.hid A1
                clear A1
                generalize vals 12 = v12 at *
                simp only [putAll, Act.put, Nat.zero_add, Nat.reduceAdd, v0, v1, v2, v3, v4, v5, v6, v7, v8, v9, v10, v13, List.setIfInBounds_toArray, List.set_cons_zero, List.set_cons_succ]
                clear v0 v1 v2 v3 v4 v5 v6 v7 v8 v9 v10 v13
                go_wp2_with fail
                go_meet
                case rel =>
                  exact ⟨at_, rfl, by omega, ⟨⟨(c0.take x.ns x.nr x.body).1, c1, s0, s1, (g0 ++ (c0.take x.ns x.nr x.body).2), g1, y0, (y1.take kk ++ y1.drop (kk + 1)), vs0, vs1, v12, vg1, vy0, v15, o0, o1, os0, os1, own1, og1, oy0, ownY, SP3.out.drop, ((BO.out.swap.take HX.out).sub (cut_sub kk)).swap, by have := HY.out; have := HNY.out; simp only [List.length_append, List.length_take, List.length_drop]; omega⟩⟩⟩
          · as_aux_lemma =>
            obtain ⟨c0, c1, s0, s1, g0, g1, y0, y1, vs0, vs1, vg0, vg1, vy0, vy1, o0, o1, os0, os1, og0, og1, oy0, oy1, sp, bo, hy⟩ := HST.out.ex
            obtain ⟨aY, cY, hvY, hcY1, hcY⟩ := (sp.get 11 rfl : Own _ _ _ _ _ _ _).shape
            subst hvY
            simp only [maxLen] at hcY
            obtain ⟨nY, hnY⟩ : ∃ n, n = y1.length := ⟨_, rfl⟩
            have cB := (sp.get 5 rfl : Blk _ _ _ _).cell 1
            simp only [List.size_toArray, List.length_cons, List.length_nil, List.getElem?_toArray, List.getElem?_cons_zero, List.getElem?_cons_succ] at cB
            rw [← hnY] at cB hcY1
            have HNY := Lib.hid hnY
            have SP := Lib.hid sp
            have BO := Lib.hid bo
            have HY := Lib.hid hy
            clear sp bo hnY hy
            by_cases hy0 : nY = 0
            · subst hy0
              go_wp2_with fail
              go_roundg (n2 - (i + 1))
              case rel => exact ⟨i + 1, at_, by omega, by go_num, rfl, by omega, ⟨⟨c0, c1, s0, s1, g0, g1, y0, y1, vs0, vs1, vg0, vg1, vy0, (.slice aY y1.length cY), o0, o1, os0, os1, og0, og1, oy0, oy1, SP.out, BO.out, by have := HY.out; omega⟩⟩⟩
              case measure => omega
            · go_upto_region 19 with (fail)
              have h10 := i64_mask (P / 16) 10 (by omega)
              obtain ⟨kk, hkk, hlt⟩ : ∃ kk : Nat, (bits BinOp.and IntKind.i64 (P / 16) 1023).tmod nY = kk ∧ kk < nY := by
                rw [show (1023 : Int) = ((2 ^ 10 - 1 : Nat) : Int) from rfl, h10, Int.tmod_eq_emod_of_nonneg (by omega)]
                have h1 := Int.emod_nonneg (P / 16 % ((2 ^ 10 : Nat) : Int)) (b := (nY : Int)) (by omega)
                have h2 := Int.emod_lt_of_pos (P / 16 % ((2 ^ 10 : Nat) : Int)) (b := (nY : Int)) (by omega)
                exact ⟨((P / 16 % ((2 ^ 10 : Nat) : Int)) % (nY : Int)).toNat, by omega, by omega⟩
              rw [hkk]
              clear hkk h10
              obtain ⟨x, hx⟩ : ∃ x, y1[kk]? = some x := ⟨_, List.getElem?_eq_getElem (by have := HNY.out; omega)⟩
              obtain ⟨qY, rfl, c0_, c1_, c2_⟩ := ((SP.out.get 11 rfl : Own _ _ _ _ _ _ _).rd (items_oneCell _)).item hx
              have HX : Hid (x ∈ y1) := List.mem_of_getElem? hx
              have hxs : x.body.size ≤ 3 := BO.out.swap.small HX.out
              have SPX := Lib.hid (SP.out.cons (t := blkT wr.heap.size 30 #[.int .i64 x.ns, .int .i64 x.nr, .string x.body]) ((Upd.refl _ _).alloc _) (Blk.new _ _ _) (by simp [blkT]))
              have hkd := HKD.out
              have lY := (SP.out.get 5 rfl : Blk _ _ _ _).lt
              clear hx SP
              go_upto_region 22 with (fail)
              refine gen_world (fun V => Sep w V (blkT wr.heap.size 30 #[.int .i64 x.ns, .int .i64 x.nr, .string x.body] :: brL b0 b1 BE BS BG BY c0 c1 s0 s1 g0 g1 y0 y1 vs0 vs1 vg0 vg1 vy0 (.slice (some qY) y1.length cY) o0 o1 os0 os1 og0 og1 oy0 oy1)) SPX.out ?_
              intro W1 SP1
              clear SPX
              generalize wr.heap.size = BX at *
              have SP2 := Lib.hid SP1
              clear SP1
              clear c0_ c1_ c2_ lY
              by_cases tl : bits BinOp.and IntKind.i64 (P / 16384) 3 = 0
              · go_wp2_with fail
                go_meet
                case rel => exact ⟨at_, rfl, by omega, ⟨⟨c0, c1, s0, s1, g0, g1, y0, y1, vs0, vs1, vg0, vg1, vy0, (.slice (some qY) y1.length cY), o0, o1, os0, os1, og0, og1, oy0, oy1, SP2.out.drop, (BO.out.swap).swap, by have := HY.out; omega⟩⟩⟩
              · have tl2 : ((bits BinOp.and IntKind.i64 (P / 16384) 3) != 0) = true := by simpa using tl
                go_upto_region 23 with (fail)
                obtain ⟨aG, cG, hvG, -, hcG⟩ := (SP2.out.get 9 rfl : Own _ _ _ _ _ _ _).shape
                subst hvG
                simp only [maxLen] at hcG
                have hgl : g0.length ≤ 60 := by have h1 := BO.out.good; have h2 := BO.out.few; have h3 := BO.out.n60; omega
                have hw1 : IntKind.i64.wrap 0 = 0 := by rfl
                clear tl tl2 hkd
                refine wp_region_chain [some (.int .i64 1), some (.int .i64 0), some (.int .i64 1), some (.int .i64 0), some (.pointer (some ⟨BG, 0, none⟩)), some (.slice aG g0.length cG), some (.int .i64 1), some (.int .i64 0), some (.pointer (some ⟨BE, 0, none⟩)), some (.pointer (some ⟨b0, 0, none⟩)), some (.agg #[.int .i64 x.ns, .int .i64 x.nr, .string x.body]), none, none, some (.pointer (some ⟨BG, 0, none⟩)), none] [11,12,14] (takeA w (blkT BX 30 #[.int .i64 x.ns, .int .i64 x.nr, .string x.body] :: brL b0 b1 BE BS BG BY c0 c1 s0 s1 g0 g1 y0 y1 vs0 vs1 (.slice aG g0.length cG) vg1 vy0 (.slice (some qY) y1.length cY) o0 o1 os0 os1 og0 og1 oy0 oy1) 0 b0 BG c0 x g0 o0 (fun u => #[u, vg1])) [(0, 2), (0, 2), (0, 1), (0, 1), (0, 1), (0, 1), (0, 0), (0, 0), (0, 0), (0, 0), (0, 0), (0, 0), (1, 1), (2, 2), (2, 2)] (by kernel_rfl) (by kernel_rfl) (by kernel_rfl) (by kernel_rfl) (by kernel_rfl) (by kernel_rfl) (SP2.out.keep (Upd.refl _ _).drew) ?_ ?_
                · refine StepsC.cons ?_ (StepsC.cons ?_ (StepsC.cons ?_ (StepsC.cons ?_ (StepsC.cons ?_ (StepsC.cons ?_ (StepsC.cons ?_ (StepsC.cons ?_ (StepsC.cons ?_ (StepsC.cons ?_ (StepsC.cons ?_ (StepsC.cons ?_ (StepsC.cons ?_ (StepsC.cons ?_ (StepsC.cons ?_ StepsC.nil))))))))))))))
                  · refine chain_is _ rfl ⟨_, rfl⟩ (by kernel_rfl) rfl ?_
                    intro a W k l0 h0 A0 hF hD
                    have e20 : a.tmps[20]?.getD undef = _ := (ev a 20).symm.trans (hF 20 (by kernel_rfl))
                    clear hF hD
                    go_simp
                  · refine chain_is _ rfl ⟨_, rfl⟩ (by kernel_rfl) rfl ?_
                    intro a W k l0 h0 A0 hF hD
                    have e141 : a.tmps[141]?.getD undef = .int .i64 1 := (ev a 141).symm.trans (hD _ (Array.mem_of_getElem? (i := 0) rfl) rfl)
                    clear hF hD
                    go_simp
                  · refine chain_is _ rfl ⟨_, rfl⟩ (by kernel_rfl) rfl ?_
                    intro a W k l0 h0 A0 hF hD
                    have e20 : a.tmps[20]?.getD undef = _ := (ev a 20).symm.trans (hF 20 (by kernel_rfl))
                    clear hF hD
                    go_simp
                  · refine chain_is _ rfl ⟨_, rfl⟩ (by kernel_rfl) rfl ?_
                    intro a W k l0 h0 A0 hF hD
                    have e143 : a.tmps[143]?.getD undef = .int .i64 1 := (ev a 143).symm.trans (hD _ (Array.mem_of_getElem? (i := 0) rfl) rfl)
                    clear hF hD
                    go_simp
                  · refine chain_is _ rfl ⟨_, rfl⟩ (by kernel_rfl) rfl ?_
                    intro a W k l0 h0 A0 hF hD
                    have e144 : a.tmps[144]?.getD undef = .int .i64 0 := (ev a 144).symm.trans (hD _ (Array.mem_of_getElem? (i := 0) rfl) rfl)
                    have e15 : a.tmps[15]?.getD undef = _ := (ev a 15).symm.trans (hF 15 (by kernel_rfl))
                    clear hF hD
                    go_simp
                  · refine chain_is _ rfl ⟨_, rfl⟩ (by kernel_rfl) rfl ?_
                    intro a W k l0 h0 A0 hF hD
                    have e145 : a.tmps[145]?.getD undef = .pointer (some ⟨BG, 0, none⟩) := (ev a 145).symm.trans (hD _ (Array.mem_of_getElem? (i := 0) rfl) rfl)
                    clear hF hD
                    have cB := (takeA_BG (rfl : _ = some (blkT BG 38 #[.slice aG g0.length cG, vg1])) (by decide) (by simp only [List.length_map, List.length_take]; omega) A0).cell 0
                    simp only [List.size_toArray, List.length_cons, List.length_nil, List.getElem?_toArray, List.getElem?_cons_zero, List.getElem?_cons_succ] at cB
                    go_simp
                  · refine chain_is _ rfl ⟨_, rfl⟩ (by kernel_rfl) rfl ?_
                    intro a W k l0 h0 A0 hF hD
                    have k0 : k = 0 := Nat.le_antisymm h0 l0
                    subst k0
                    clear l0 h0
                    have e20 : a.tmps[20]?.getD undef = _ := (ev a 20).symm.trans (hF 20 (by kernel_rfl))
                    clear hF hD
                    go_simp
                  · refine chain_is _ rfl ⟨_, rfl⟩ (by kernel_rfl) rfl ?_
                    intro a W k l0 h0 A0 hF hD
                    have k0 : k = 0 := Nat.le_antisymm h0 l0
                    subst k0
                    clear l0 h0
                    have e147 : a.tmps[147]?.getD undef = .int .i64 1 := (ev a 147).symm.trans (hD _ (Array.mem_of_getElem? (i := 0) rfl) rfl)
                    clear hF hD
                    go_simp
                  · refine chain_is _ rfl ⟨_, rfl⟩ (by kernel_rfl) rfl ?_
                    intro a W k l0 h0 A0 hF hD
                    have k0 : k = 0 := Nat.le_antisymm h0 l0
                    subst k0
                    clear l0 h0
                    have e148 : a.tmps[148]?.getD undef = .int .i64 0 := (ev a 148).symm.trans (hD _ (Array.mem_of_getElem? (i := 0) rfl) rfl)
                    have e13 : a.tmps[13]?.getD undef = _ := (ev a 13).symm.trans (hF 13 (by kernel_rfl))
                    clear hF hD
                    go_simp
                  · refine chain_is _ rfl ⟨_, rfl⟩ (by kernel_rfl) rfl ?_
                    intro a W k l0 h0 A0 hF hD
                    have k0 : k = 0 := Nat.le_antisymm h0 l0
                    subst k0
                    clear l0 h0
                    have e149 : a.tmps[149]?.getD undef = .pointer (some ⟨BE, 0, none⟩) := (ev a 149).symm.trans (hD _ (Array.mem_of_getElem? (i := 0) rfl) rfl)
                    clear hF hD
                    have A1 : Sep _ _ _ := A0
                    have cB := (A1.get 3 rfl : Blk _ _ _ _).cell 0
                    simp only [List.size_toArray, List.length_cons, List.length_nil, List.getElem?_toArray, List.getElem?_cons_zero, List.getElem?_cons_succ] at cB
                    go_simp
                  · refine chain_is _ rfl ⟨_, rfl⟩ (by kernel_rfl) rfl ?_
                    intro a W k l0 h0 A0 hF hD
                    have k0 : k = 0 := Nat.le_antisymm h0 l0
                    subst k0
                    clear l0 h0
                    have e23 : a.tmps[23]?.getD undef = _ := (ev a 23).symm.trans (hF 23 (by kernel_rfl))
                    clear hF hD
                    have A1 : Sep _ _ _ := A0
                    have cB0 := (A1.get 0 rfl : Blk _ _ _ _).cell 0
                    have cB1 := (A1.get 0 rfl : Blk _ _ _ _).cell 1
                    have cB2 := (A1.get 0 rfl : Blk _ _ _ _).cell 2
                    simp only [List.size_toArray, List.length_cons, List.length_nil, List.getElem?_toArray, List.getElem?_cons_zero, List.getElem?_cons_succ] at cB0 cB1 cB2
                    go_simp
                  · refine chain_call rfl ⟨_, rfl⟩ (by kernel_rfl) ?_
                    intro a W k l0 h0 A0 hF hD
                    have k0 : k = 0 := Nat.le_antisymm h0 l0
                    subst k0
                    clear l0 h0
                    have e150 : a.tmps[150]?.getD undef = .pointer (some ⟨b0, 0, none⟩) := (ev a 150).symm.trans (hD _ (Array.mem_of_getElem? (i := 0) rfl) rfl)
                    have e151 : a.tmps[151]?.getD undef = .agg #[.int .i64 x.ns, .int .i64 x.nr, .string x.body] := (ev a 151).symm.trans (hD _ (Array.mem_of_getElem? (i := 1) rfl) rfl)
                    clear hF hD
                    have A1 : Sep _ _ _ := A0
                    refine ⟨_, _, by (go_simp; first | done | rfl | exact ⟨rfl, rfl⟩), ?_⟩
                    refine (take_at (A1.get 1 rfl) x.ns x.nr x.body (by omega)).mono ?_
                    rintro e w3 ⟨⟨v3, p3, rfl, q3, r3⟩, h3, u3⟩
                    exact ⟨_, rfl, trivial, p3, A1.set_cons 1 rfl u3 (fun x hx => .inl hx) (t' := ctlT _ _ o0) h3 (fun x hx => .inl hx) (s := ownT 9 1 v3 _ _ p3) q3 r3 (fun k hk hk2 => by have h1 := r3 k hk; have h2 := (A1.get 1 rfl : CtlAt _ _ _ _).lt k hk2; omega)⟩
                  · refine chain_run rfl ⟨_, rfl⟩ (by kernel_rfl) ?_
                    intro a W k l0 h0 A0 hF hD
                    have k0 : k = 1 := Nat.le_antisymm h0 l0
                    subst k0
                    clear l0 h0
                    have e146 : a.tmps[146]?.getD undef = .slice aG g0.length cG := (ev a 146).symm.trans (hD _ (Array.mem_of_getElem? (i := 0) rfl) rfl)
                    clear hF hD
                    obtain ⟨p3, A1⟩ := A0
                    have HR := (A1.get 0 rfl : Own _ _ _ _ _ _ _).texts
                    have A2 := A1.drop
                    have HO := (A2.get 9 rfl : Own _ _ _ _ _ _ _)
                    have hT := C.take_len2 c0 x.ns x.nr x.body
                    obtain ⟨ao1, cap1, w5, own1, hrun, ho1, hin1, hu5⟩ := run_append_Rd (P := Try.prog) W 27 27 9 i0 _ 1 16 Try.underlying27 hi0 hz0 hz1 hz2 rfl (by decide) _ g0.length _ _ HO _ _ _ HR (by simp only [maxLen]; omega) (by omega)
                    exact ⟨_, w5, exec_append rfl ((ev a 146).trans e146) rfl hrun, trivial, own1, A2.set 9 rfl hu5 (fun x hx => .inl hx) (t' := ownT 9 1 _ (g0 ++ (c0.take x.ns x.nr x.body).2).length (strs (g0 ++ (c0.take x.ns x.nr x.body).2)) own1) (by simpa [strs, ownT] using ho1) hin1⟩
                  · refine chain_is _ rfl ⟨_, rfl⟩ (by kernel_rfl) rfl ?_
                    intro a W k l0 h0 A0 hF hD
                    have k0 : k = 2 := Nat.le_antisymm h0 l0
                    subst k0
                    clear l0 h0
                    have e142 : a.tmps[142]?.getD undef = .int .i64 0 := (ev a 142).symm.trans (hD _ (Array.mem_of_getElem? (i := 0) rfl) rfl)
                    have e15 : a.tmps[15]?.getD undef = _ := (ev a 15).symm.trans (hF 15 (by kernel_rfl))
                    clear hF hD
                    go_simp
                  · refine chain_set rfl rfl (by kernel_rfl) trivial ?_
                    intro a W k l0 h0 A0 hF hD
                    have k0 : k = 2 := Nat.le_antisymm h0 l0
                    subst k0
                    clear l0 h0
                    have e154 : a.tmps[154]?.getD undef = .pointer (some ⟨BG, 0, none⟩) := (ev a 154).symm.trans (hD _ (Array.mem_of_getElem? (i := 0) rfl) rfl)
                    clear hF hD
                    obtain ⟨own1, A1⟩ := A0
                    obtain ⟨ao1, cap1, hv, -, -⟩ := (A1.get 9 rfl : Own _ _ _ _ _ _ _).shape
                    rw [List.length_append] at hv
                    have e153 : a.tmps[153]?.getD undef = _ := (ev a 153).symm.trans hv
                    have cB := (A1.get 5 rfl : Blk _ _ _ _).cell 0
                    have fB := (A1.get 5 rfl : Blk _ _ _ _).frozen 0
                    simp only [List.size_toArray, List.length_cons, List.length_nil, List.getElem?_toArray, List.getElem?_cons_zero, List.getElem?_cons_succ] at cB
                    have hb := (A1.get 5 rfl : Blk _ _ _ _).set_ 0 (Value.slice ao1 (g0.length + (c0.take x.ns x.nr x.body).2.length) cap1)
                    refine ⟨_, by (go_simp; first | done | rfl | exact ⟨rfl, rfl⟩), own1, A1.set 5 rfl ((Upd.refl [BG] _).setCell _ (.inl (by simp))) (fun x hx => .inl hx) (t' := blkT BG 38 _) ?_ (fun x hx => .inl hx)⟩
                    rw [show leftAt _ a 12 = Value.slice ao1 (g0.length + (c0.take x.ns x.nr x.body).2.length) cap1 from hv]
                    exact hb
                intro vals W hv hA
                have v0 : vals 0 = .int .i64 1 := hv 0 (by decide)
                have v1 : vals 1 = .int .i64 0 := hv 1 (by decide)
                have v2 : vals 2 = .int .i64 1 := hv 2 (by decide)
                have v3 : vals 3 = .int .i64 0 := hv 3 (by decide)
                have v4 : vals 4 = .pointer (some ⟨BG, 0, none⟩) := hv 4 (by decide)
                have v5 : vals 5 = .slice aG g0.length cG := hv 5 (by decide)
                have v6 : vals 6 = .int .i64 1 := hv 6 (by decide)
                have v7 : vals 7 = .int .i64 0 := hv 7 (by decide)
                have v8 : vals 8 = .pointer (some ⟨BE, 0, none⟩) := hv 8 (by decide)
                have v9 : vals 9 = .pointer (some ⟨b0, 0, none⟩) := hv 9 (by decide)
                have v10 : vals 10 = .agg #[.int .i64 x.ns, .int .i64 x.nr, .string x.body] := hv 10 (by decide)
                have v13 : vals 13 = .pointer (some ⟨BG, 0, none⟩) := hv 13 (by decide)
                clear hv
                obtain ⟨own1, A1⟩ := hA
                have SP3 := Lib.hid A1
                clear A1
                generalize vals 12 = v12 at *
                simp only [putAll, Act.put, Nat.zero_add, Nat.reduceAdd, v0, v1, v2, v3, v4, v5, v6, v7, v8, v9, v10, v13, List.setIfInBounds_toArray, List.set_cons_zero, List.set_cons_succ]
                clear v0 v1 v2 v3 v4 v5 v6 v7 v8 v9 v10 v13
                go_wp2_with fail
                go_meet
                case rel =>
                  exact ⟨at_, rfl, by omega, ⟨⟨(c0.take x.ns x.nr x.body).1, c1, s0, s1, (g0 ++ (c0.take x.ns x.nr x.body).2), g1, y0, y1, vs0, vs1, v12, vg1, vy0, (.slice (some qY) y1.length cY), o0, o1, os0, os1, own1, og1, oy0, oy1, SP3.out.drop, ((BO.out.swap.take HX.out)).swap, by have := HY.out; omega⟩⟩⟩
      case rest =>
       as_aux_lemma =>
        obtain ⟨at', rfl, hat', hst⟩ := hcut
        have HST2 := Lib.hid hst
        clear hst HST hat
        go_wp2_with fail
        go_loopg [24] 2 (fun m s24 wx => ∃ j : Nat, j + m = 2 ∧ s24 = .int .i64 j ∧ BrSt w wx b0 b1 BE BS BG BY first window at' (i + 1))
        case atStart => exact ⟨0, by omega, rfl, HST2.out⟩
        case round =>
          obtain ⟨j, hj, rfl, hst⟩ := hrel
          have HST := Lib.hid hst
          clear hst HST2
          have hj3 : j = 0 ∨ j = 1 ∨ j = 2 := by omega
          rcases hj3 with rfl | rfl | rfl
          · obtain ⟨c0, c1, s0, s1, g0, g1, y0, y1, vs0, vs1, vg0, vg1, vy0, vy1, o0, o1, os0, os1, og0, og1, oy0, oy1, sp, bo, hy⟩ := HST.out.ex
            obtain ⟨k1, k2, k3, k4, k5, k6⟩ := bo.good
            have r1 := (sp.get 6 rfl : Own _ _ _ _ _ _ _).texts
            have r2 := (sp.get 9 rfl : Own _ _ _ _ _ _ _).texts
            obtain ⟨aS, cS', rfl, hcs1, hcs⟩ := (sp.get 6 rfl : Own _ _ _ _ _ _ _).shape
            obtain ⟨aG, cG', rfl, -, hcg⟩ := (sp.get 9 rfl : Own _ _ _ _ _ _ _).shape
            have cE := (sp.get 2 rfl : Blk _ _ _ _).cell 0
            have cS := (sp.get 3 rfl : Blk _ _ _ _).cell 0
            have cG := (sp.get 4 rfl : Blk _ _ _ _).cell 1
            have HT := Lib.hid (said_first r1 r2 k1 k2)
            have HF : Hid (∀ n, Calls Try.prog 17 #[.pointer (some ⟨b0, 0, none⟩)] (wr.drewN n) fun e w' => e = .returned (.int .i64 c0.flies.length) ∧ w' = wr.drewN n) := fun n =>
              (flying_at ((sp.get 0 rfl : CtlAt _ _ _ _).keep ((Upd.refl _ _).drewN n))).mono fun _ _ ⟨he, hw⟩ => ⟨he, hw.symm⟩
            have kl : g1.length ≤ s0.length ∧ (c0.flies.length : Int) ≤ window := ⟨k1, k5⟩
            clear r1 r2 k1 k2 k3 k4 k5 k6 sp bo hy
            simp only [List.size_toArray, List.length_cons, List.length_nil, List.getElem?_toArray, List.getElem?_cons_zero, List.getElem?_cons_succ] at cE cS cG
            have hsl := run_prefix (P := Try.prog) 27 Try.underlying27 1 size_str aS s0.length cS' g1.length (by omega)
            have w1 : IntKind.i64.wrap 1 = 1 := by rfl
            go_wp2_with fail
            go_quiet ((first | (go_at_call 16; exact HT.out _) | (go_at_call 17; exact Calls.quiet_of_same (HF.out _))))
            go_wp2_with fail
            go_roundg (2 - (0 + 1))
            case rel => exact ⟨0 + 1, by omega, rfl, HST.out.keep ((Upd.refl _ _).drewN _)⟩
            case measure => omega
          · obtain ⟨c0, c1, s0, s1, g0, g1, y0, y1, vs0, vs1, vg0, vg1, vy0, vy1, o0, o1, os0, os1, og0, og1, oy0, oy1, sp, bo, hy⟩ := HST.out.ex
            obtain ⟨k1, k2, k3, k4, k5, k6⟩ := bo.good
            have r1 := (sp.get 7 rfl : Own _ _ _ _ _ _ _).texts
            have r2 := (sp.get 8 rfl : Own _ _ _ _ _ _ _).texts
            obtain ⟨aS, cS', rfl, hcs1, hcs⟩ := (sp.get 7 rfl : Own _ _ _ _ _ _ _).shape
            obtain ⟨aG, cG', rfl, -, hcg⟩ := (sp.get 8 rfl : Own _ _ _ _ _ _ _).shape
            have cE := (sp.get 2 rfl : Blk _ _ _ _).cell 1
            have cS := (sp.get 3 rfl : Blk _ _ _ _).cell 1
            have cG := (sp.get 4 rfl : Blk _ _ _ _).cell 0
            have HT := Lib.hid (said_first r1 r2 k3 k4)
            have HF : Hid (∀ n, Calls Try.prog 17 #[.pointer (some ⟨b1, 0, none⟩)] (wr.drewN n) fun e w' => e = .returned (.int .i64 c1.flies.length) ∧ w' = wr.drewN n) := fun n =>
              (flying_at ((sp.get 1 rfl : CtlAt _ _ _ _).keep ((Upd.refl _ _).drewN n))).mono fun _ _ ⟨he, hw⟩ => ⟨he, hw.symm⟩
            have kl : g0.length ≤ s1.length ∧ (c1.flies.length : Int) ≤ window := ⟨k3, k6⟩
            clear r1 r2 k1 k2 k3 k4 k5 k6 sp bo hy
            simp only [List.size_toArray, List.length_cons, List.length_nil, List.getElem?_toArray, List.getElem?_cons_zero, List.getElem?_cons_succ] at cE cS cG
            have hsl := run_prefix (P := Try.prog) 27 Try.underlying27 1 size_str aS s1.length cS' g0.length (by omega)
            have w1 : IntKind.i64.wrap 0 = 0 := by rfl
            go_wp2_with fail
            go_quiet ((first | (go_at_call 16; exact HT.out _) | (go_at_call 17; exact Calls.quiet_of_same (HF.out _))))
            go_wp2_with fail
            go_roundg (2 - (1 + 1))
            case rel => exact ⟨1 + 1, by omega, rfl, HST.out.keep ((Upd.refl _ _).drewN _)⟩
            case measure => omega
          · go_wp2_with fail
            go_roundg (n2 - (i + 1))
            case rel => exact ⟨i + 1, at', by omega, by go_num, rfl, by omega, HST.out⟩
            case measure => omega
    · obtain rfl : i = n2 := by omega
      obtain ⟨c0, c1, s0, s1, g0, g1, y0, y1, vs0, vs1, vg0, vg1, vy0, vy1, o0, o1, os0, os1, og0, og1, oy0, oy1, sp, bo, hy⟩ := HST.out.ex
      have HU := Lib.hid sp.upd
      clear sp bo hy HST
      go_wp2_with fail
      refine (alive_any _).mono ?_
      rintro e w4 ⟨rfl, hu4⟩
      have HU4 := Lib.hid (HU.out.trans hu4)
      clear hu4
      go_wp2_with fail
      go_ret
      exact ⟨rfl, HU4.out⟩
theorem ints_in {H : Type} {enc : TypeId × Value → H} {W : World} {ao : Option Addr} {len cap : Nat} {d : DataW H} {p : List MemPlace}
    (h : DataW.Trod enc Try.prog W 0 (fun _ => true) true 36 (.slice ao len cap) d p) : IntsIn W ao len := by
  rcases slice_came Try.underlying36 h with ⟨rfl, rfl, rfl⟩ | ⟨q, rfl, hl, hm, hel⟩
  · exact fun i hi => by omega
  intro i hi
  obtain ⟨cs, n, x, hc, ht⟩ := hel i hi
  have hn : Try.prog.cellsOf 3 = 1 := by kernel_rfl
  rw [hn, Nat.mul_one] at hc
  obtain ⟨v, hv, _⟩ := DataW.trod_int Try.underlying3 ht
  have c0 := cell_of_cells hc 0 (by omega)
  refine ⟨q, v, rfl, ?_⟩
  rw [add_add, Nat.add_zero] at c0
  rw [c0, hv]
  rfl
set_option maxRecDepth 100000 in
set_option maxHeartbeats 2000000 in
theorem ctlBrings_out (window first : Int) (a : Option Addr) (n cap : Nat) (a2 : Option Addr) (n2 cap2 : Nat) (hm : n ≤ maxLen ∧ n2 ≤ maxLen) (h : ¬ ((1 ≤ window ∧ window ≤ 8) ∧ (0 ≤ first ∧ first ≤ 65535) ∧ n ≤ 60 ∧ n2 ≤ 400)) (w : World) :
    Calls Try.prog 5 #[.int .i64 window, .int .i64 first, .slice a n cap, .slice a2 n2 cap2] w fun e w' => e = .returned (.bool true) ∧ Upd [] w w' := by
  obtain ⟨hm1, hm2⟩ := hm
  simp only [maxLen] at hm1 hm2
  by_cases t1 : window < 1
  rotate_left
  by_cases t2 : 8 < window
  rotate_left
  by_cases t3 : first < 0
  rotate_left
  by_cases t4 : 65535 < first
  rotate_left
  by_cases t5 : 60 < n
  rotate_left
  by_cases t6 : 400 < n2
  rotate_left
  · exact absurd ⟨⟨by omega, by omega⟩, ⟨by omega, by omega⟩, by omega, by omega⟩ h
  all_goals
    clear h
    go_enter Try.func5, Try.ntmps5
    go_wp2_with fail
    refine (alive_any _).mono ?_
    rintro e w' ⟨rfl, hu⟩
    go_wp2
    go_ret
    exact ⟨rfl, hu⟩
open Go.ChangeShapes Go.WideShapes in
theorem ctlBrings_walk {H : Type} {enc : TypeId × Value → H} (window : Int) (_ : (Lit.int .i64 window).wf = true) (first : Int) (_ : (Lit.int .i64 first).wf = true)
    {v u : Value} {d d' : DataW H} {p p' : List MemPlace} {W : World} {base : Nat} (h : DataW.Trod enc Try.prog W 0 (fun _ => true) true 36 v d p) (o : Value.okWide Try.prog W .any base 36 v)
    (h' : DataW.Trod enc Try.prog W 0 (fun _ => true) true 36 u d' p') (o' : Value.okWide Try.prog W .any base 36 u) :
    Calls Try.prog 5 #[.int .i64 window, .int .i64 first, v, u] W fun e w' => e = .returned (.bool true) ∧ Below W.heap.size W w' := by
  obtain ⟨a, n, cap, rfl⟩ := okWide_slice Try.underlying36 o
  obtain ⟨a2, n2, cap2, rfl⟩ := okWide_slice Try.underlying36 o'
  have l1 : n ≤ maxLen := by
    rcases slice_came Try.underlying36 h with ⟨rfl, rfl, rfl⟩ | ⟨q, rfl, hl, hm, hel⟩
    · simp
    · omega
  have l2 : n2 ≤ maxLen := by
    rcases slice_came Try.underlying36 h' with ⟨rfl, rfl, rfl⟩ | ⟨q, rfl, hl, hm, hel⟩
    · simp
    · omega
  by_cases hr : (1 ≤ window ∧ window ≤ 8) ∧ (0 ≤ first ∧ first ≤ 65535) ∧ n ≤ 60 ∧ n2 ≤ 400
  · exact (ctlBrings_run window first a n cap a2 n2 cap2 hr.1 hr.2.1 hr.2.2.1 hr.2.2.2 W (ints_in h) (ints_in h')).mono fun e w' ⟨he, hu⟩ => ⟨he, hu.below⟩
  · exact (ctlBrings_out window first a n cap a2 n2 cap2 ⟨l1, l2⟩ hr W).mono fun e w' ⟨he, hu⟩ => ⟨he, hu.below⟩
end Go.Proofs.Ytclodmcdimaccaa
