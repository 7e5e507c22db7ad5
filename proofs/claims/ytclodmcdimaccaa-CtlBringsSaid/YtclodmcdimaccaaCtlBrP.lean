/- Plain: what CtlBrings keeps from round to round, one way and both ways. No program in sight but the channel's words. -/
import Derived.Test.YtclodmcdimaccaaCtlWinP
import Derived.Test.YtclodmcdimaccaaCtlN
namespace Go.Proofs.Ytclodmcdimaccaa

theorem bef_near (f : Int) (x y : Nat) (hx : x ≤ 100) (hy : y ≤ 100) : bef ((f + x) % 65536) ((f + y) % 65536) = decide (x < y) := by
  unfold bef
  rw [Bool.eq_iff_iff]
  simp only [Bool.and_eq_true, decide_eq_true_eq]
  omega

/-- What S has sent, from number A on, on the way W to R, who took 'got'; what R says of numbers is on the way V back. -/
structure Link (f : Int) (snt got : List ByteArray) (S : C) (came : Int) (W V : List Item) (A : Nat) : Prop where
  all : S.flies ++ S.waits = snt.drop A
  num : S.sent = (f + ((A + S.flies.length : Nat) : Int)) % 65536
  cam : came = (f + (got.length : Int)) % 65536
  pre : snt.take got.length = got
  low : A ≤ got.length
  top : got.length ≤ A + S.flies.length
  len : A + S.flies.length + S.waits.length = snt.length
  few : snt.length ≤ 60
  thr : ∀ m ∈ snt, m.size = 3
  way : ∀ x ∈ W, x.body.size ≠ 0 → ∃ i : Nat, i < A + S.flies.length ∧ x.ns = (f + i) % 65536 ∧ snt[i]? = some x.body
  ack : ∀ x ∈ V, ∃ r : Nat, r ≤ got.length ∧ x.nr = (f + r) % 65536

variable {f : Int} {snt got : List ByteArray} {S S' : C} {came : Int} {W V W' V' : List Item} {A : Nat}

theorem Link.new (f : Int) (hf : 0 ≤ f ∧ f ≤ 65535) (c : C) (hw : c.waits = []) (hl : c.flies = []) (hs : c.sent = f) : Link f [] [] c f [] [] 0 := by
  refine ⟨by simp [hw, hl], ?_, ?_, rfl, Nat.le_refl _, by simp, by simp [hw, hl], by simp, by simp, by simp, by simp⟩
  · rw [hs, hl]; simp; omega
  · simp; omega
theorem Link.sub (h : Link f snt got S came W V A) (hW : ∀ x ∈ W', x ∈ W) (hV : ∀ x ∈ V', x ∈ V) : Link f snt got S came W' V' A :=
  { h with way := fun x hx => h.way x (hW x hx), ack := fun x hx => h.ack x (hV x hx) }
theorem Link.same (h : Link f snt got S came W V A) (h1 : S'.flies = S.flies) (h2 : S'.waits = S.waits) (h3 : S'.sent = S.sent) : Link f snt got S' came W V A := by
  obtain ⟨a1, a2, a3, a4, a5, a6, a7, a8, a9, a10, a11⟩ := h
  exact ⟨by rw [h1, h2]; exact a1, by rw [h1, h3]; exact a2, a3, a4, a5, by rw [h1]; exact a6, by rw [h1, h2]; exact a7, a8, a9, by rw [h1]; exact a10, a11⟩

/-! ### Send -/
theorem C.send_cases (c : C) (m : ByteArray) : ((c.send m).2 = 0 ∧ (c.send m).1 = { c with waits := c.waits ++ [m] }) ∨ ((c.send m).2 ≠ 0 ∧ (c.send m).1 = c) := by
  unfold C.send
  (repeat' split) <;> first | (right; exact ⟨by simp, rfl⟩) | (left; exact ⟨rfl, rfl⟩)
theorem Link.send (h : Link f snt got S came W V A) {m : ByteArray} (hm : m.size = 3) (hl : snt.length < 60) (h0 : (S.send m).2 = 0) : Link f (snt ++ [m]) got (S.send m).1 came W V A := by
  rcases C.send_cases S m with ⟨_, e⟩ | ⟨e, _⟩
  · rw [e]
    obtain ⟨a1, a2, a3, a4, a5, a6, a7, a8, a9, a10, a11⟩ := h
    have hA : A ≤ snt.length := by omega
    refine ⟨?_, a2, a3, ?_, a5, a6, ?_, ?_, ?_, ?_, a11⟩
    · rw [List.drop_append_of_le_length hA, ← a1, List.append_assoc]
    · rw [List.take_append_of_le_length (by omega)]; exact a4
    · simp only [List.length_append, List.length_singleton]; omega
    · simp only [List.length_append, List.length_singleton]; omega
    · intro x hx
      rcases List.mem_append.1 hx with hx | hx
      · exact a9 x hx
      · simp at hx; subst hx; exact hm
    · intro x hx hb
      obtain ⟨i, h1, h2, h3⟩ := a10 x hx hb
      refine ⟨i, h1, h2, ?_⟩
      rw [List.getElem?_append_left]
      · exact h3
      · exact (List.getElem?_eq_some_iff.1 h3).1
  · exact absurd h0 e

/-! ### Out -/
/-- What Out keeps while it says things: l said so far. -/
structure Saying (f : Int) (snt : List ByteArray) (A : Nat) (n0 : Nat) (came : Int) (c : C) (l : List Item) : Prop where
  all : c.flies ++ c.waits = snt.drop A
  num : c.sent = (f + ((A + c.flies.length : Nat) : Int)) % 65536
  len : A + c.flies.length + c.waits.length = snt.length
  thr : ∀ m ∈ snt, m.size = 3
  mor : n0 ≤ c.flies.length
  cam : c.came = came
  way : ∀ x ∈ l, x.nr = came ∧ (x.body.size ≠ 0 → ∃ i : Nat, i < A + c.flies.length ∧ x.ns = (f + i) % 65536 ∧ snt[i]? = some x.body)
theorem Saying.fly {n0 : Nat} {c : C} {l : List Item} (h : Saying f snt A n0 came c l) (hw : 0 < c.waits.length) : Saying f snt A n0 came c.fly (l ++ [c.flyItem]) := by
  obtain ⟨a1, a2, a3, a4, a5, a6, a7⟩ := h
  cases hc : c.waits with
  | nil => rw [hc] at hw; simp at hw
  | cons m r =>
    rw [hc] at a1 a3
    refine ⟨?_, ?_, ?_, a4, ?_, a6, ?_⟩
    · simp only [C.fly, hc, hd, List.tail_cons, List.append_assoc, List.singleton_append]; exact a1
    · simp only [C.fly, List.length_append, List.length_singleton]; rw [a2]; omega
    · simp only [C.fly, hc, List.tail_cons, List.length_append, List.length_singleton]; simp only [List.length_cons] at a3; omega
    · simp only [C.fly, List.length_append, List.length_singleton]; omega
    · intro x hx
      simp only [C.fly, List.length_append, List.length_singleton]
      rcases List.mem_append.1 hx with hx | hx
      · obtain ⟨h1, h2⟩ := a7 x hx
        refine ⟨h1, fun hb => ?_⟩
        obtain ⟨i, k1, k2, k3⟩ := h2 hb
        exact ⟨i, by omega, k2, k3⟩
      · simp at hx; subst hx
        refine ⟨a6, fun _ => ⟨A + c.flies.length, by omega, a2, ?_⟩⟩
        simp only [C.flyItem, hc, hd]
        have := congrArg (fun l => l[c.flies.length]?) a1
        simp only [List.getElem?_append_right (Nat.le_refl _), Nat.sub_self, List.getElem?_cons_zero, List.getElem?_drop] at this
        exact this.symm
theorem Saying.loop {n0 : Nat} : ∀ (n : Nat) (c : C) (l : List Item), Saying f snt A n0 came c l → Saying f snt A n0 came (C.outLoop n (c, l)).1 (C.outLoop n (c, l)).2
  | 0, _, _, h => h
  | n + 1, c, l, h => by
    unfold C.outLoop
    split
    · rename_i hc
      exact Saying.loop n _ _ (h.fly hc.1)
    · exact h
theorem Saying.again (h : Link f snt got S came W V A) : Saying f snt A S.flies.length S.came S S.outAgain := by
  obtain ⟨a1, a2, a3, a4, a5, a6, a7, a8, a9, a10, a11⟩ := h
  refine ⟨a1, a2, a7, a9, Nat.le_refl _, rfl, ?_⟩
  intro x hx
  unfold C.outAgain at hx
  split at hx
  · rename_i hc
    simp at hx; subst hx
    refine ⟨rfl, fun _ => ⟨A, by omega, ?_, ?_⟩⟩
    · simp only [C.first]; rw [a2]; omega
    · cases hc2 : S.flies with
      | nil => rw [hc2] at hc; simp at hc
      | cons m r =>
        have := congrArg (fun l => l[0]?) a1
        rw [hc2] at this
        simp only [List.cons_append, List.getElem?_cons_zero, List.getElem?_drop, Nat.add_zero] at this
        simp only [hd]; exact this.symm
  · simp at hx
theorem C.out_came (c : C) : c.out.1.came = c.came := by
  have h : ∀ n (p : C × List Item), (C.outLoop n p).1.came = p.1.came := by
    intro n
    induction n with
    | zero => intro p; rfl
    | succ n ih =>
      rintro ⟨c, l⟩
      unfold C.outLoop
      split
      · rw [ih]; rfl
      · rfl
  unfold C.out
  split
  · rfl
  · exact h _ _
/-- What Out says comes on the way, for both ways. -/
theorem Link.out (h : Link f snt got S came W V A) : Link f snt got S.out.1 came (W ++ S.out.2) V A ∧ (∀ x ∈ S.out.2, x.nr = S.came) := by
  by_cases hd : S.dead = true
  · have : S.out = (S, []) := by unfold C.out; rw [if_pos hd]
    rw [this]
    simp only [List.append_nil, List.not_mem_nil, false_implies, implies_true, and_true]
    exact h
  have hs := (Saying.again h).loop S.waits.length
  have ho : S.out = C.outEnd (C.outLoop S.waits.length (S, S.outAgain)) := by unfold C.out; rw [if_neg hd]
  rw [ho]
  generalize C.outLoop S.waits.length (S, S.outAgain) = p at hs
  obtain ⟨c, l⟩ := p
  obtain ⟨a1, a2, a3, a4, a5, a6, a7, a8, a9, a10, a11⟩ := h
  obtain ⟨b1, b2, b3, b4, b5, b6, b7⟩ := hs
  have hend : ∀ x ∈ (C.outEnd (c, l)).2, x.nr = S.came ∧ (x.body.size ≠ 0 → ∃ i : Nat, i < A + c.flies.length ∧ x.ns = (f + i) % 65536 ∧ snt[i]? = some x.body) := by
    intro x hx
    unfold C.outEnd at hx
    simp only at hx
    split at hx
    · rcases List.mem_append.1 hx with hx | hx
      · exact b7 x hx
      · simp at hx; subst hx
        exact ⟨b6, fun hb => absurd rfl hb⟩
    · exact b7 x hx
  refine ⟨⟨b1, b2, a3, a4, a5, by simp only [C.outEnd] at *; omega, b3, a8, a9, ?_, a11⟩, fun x hx => (hend x hx).1⟩
  intro x hx hb
  rcases List.mem_append.1 hx with hx | hx
  · obtain ⟨i, k1, k2, k3⟩ := a10 x hx hb
    exact ⟨i, by simp only [C.outEnd] at *; omega, k2, k3⟩
  · exact (hend x hx).2 hb
/-- The other way hears what was said of numbers. -/
theorem Link.heard (h : Link f snt got S came W V A) {l : List Item} (hl : ∀ x ∈ l, x.nr = came) : Link f snt got S came W (V ++ l) A := by
  refine { h with ack := fun x hx => ?_ }
  rcases List.mem_append.1 hx with hx | hx
  · exact h.ack x hx
  · exact ⟨got.length, Nat.le_refl _, by rw [hl x hx]; exact h.cam⟩

/-! ### Take: the sender's side -/
theorem C.grow_sent (c : C) : c.grow.sent = c.sent := by unfold C.grow; (repeat' split) <;> rfl
theorem C.grow_came (c : C) : c.grow.came = c.came := by unfold C.grow; (repeat' split) <;> rfl
theorem C.pop_sent (c : C) : c.pop.sent = c.sent := by unfold C.pop; rw [C.grow_sent]
theorem C.pop_came (c : C) : c.pop.came = c.came := by unfold C.pop; rw [C.grow_came]
theorem C.ackLoop_came (nr : Int) : ∀ (n : Nat) (c : C), (C.ackLoop nr n c).came = c.came
  | 0, _ => rfl
  | n + 1, c => by
    unfold C.ackLoop
    split
    · rw [C.ackLoop_came nr n, C.pop_came]
    · rfl
theorem C.acked_came (c : C) (nr : Int) : (c.acked nr).came = c.came := by
  unfold C.acked; split
  · rfl
  · exact C.ackLoop_came _ _ _
theorem Link.ackLoop {r : Nat} (hr : r ≤ got.length) : ∀ (n : Nat) (c : C) (A : Nat), Link f snt got c came W V A → ∃ A', Link f snt got (C.ackLoop ((f + r) % 65536) n c) came W V A'
  | 0, c, A, h => ⟨A, h⟩
  | n + 1, c, A, h => by
    unfold C.ackLoop
    split
    · rename_i hc
      obtain ⟨a1, a2, a3, a4, a5, a6, a7, a8, a9, a10, a11⟩ := h
      have hfirst : c.first = (f + A) % 65536 := by unfold C.first; rw [a2]; omega
      have hb := hc.2
      rw [hfirst, bef_near f A r (by omega) (by omega)] at hb
      have hb : A < r := by simpa using hb
      cases hc2 : c.flies with
      | nil => rw [hc2] at hc; simp at hc
      | cons m t =>
        rw [hc2] at a1 a2 a6 a7 a10
        simp only [List.length_cons] at a2 a6 a7 a10
        refine Link.ackLoop hr n c.pop (A + 1) ⟨?_, ?_, a3, a4, by omega, ?_, ?_, a8, a9, ?_, a11⟩
        · rw [C.pop_flies, C.pop_waits, hc2, List.tail_cons, ← List.drop_drop, ← a1]; rfl
        · rw [C.pop_sent, C.pop_flies, hc2, List.tail_cons, a2]; omega
        · rw [C.pop_flies, hc2, List.tail_cons]; omega
        · rw [C.pop_flies, C.pop_waits, hc2, List.tail_cons]; omega
        · rw [C.pop_flies, hc2, List.tail_cons]
          intro x hx hb
          obtain ⟨i, k1, k2, k3⟩ := a10 x hx hb
          exact ⟨i, by omega, k2, k3⟩
    · exact ⟨A, h⟩
theorem Link.acked (h : Link f snt got S came W V A) {nr : Int} (hr : ∃ r : Nat, r ≤ got.length ∧ nr = (f + r) % 65536) : ∃ A', Link f snt got (S.acked nr) came W V A' := by
  obtain ⟨r, h1, rfl⟩ := hr
  unfold C.acked
  split
  · exact ⟨A, h⟩
  · exact h.ackLoop h1 _ _ _
theorem C.take_sent_same (c : C) (ns nr : Int) (body : ByteArray) : ((c.take ns nr body).1 = c ∧ (c.take ns nr body).2 = []) ∨ ((c.take ns nr body).1.flies = (c.acked nr).flies ∧ (c.take ns nr body).1.waits = (c.acked nr).waits ∧ (c.take ns nr body).1.sent = (c.acked nr).sent) := by
  unfold C.take
  split
  · exact .inl ⟨rfl, rfl⟩
  · right; (repeat' split) <;> exact ⟨rfl, rfl, rfl⟩
/-- The end that takes an item of the way V to it, as a sender. -/
theorem Link.taken (h : Link f snt got S came W V A) {x : Item} (hx : x ∈ V) : ∃ A', Link f snt got (S.take x.ns x.nr x.body).1 came W V A' := by
  rcases C.take_sent_same S x.ns x.nr x.body with ⟨e, _⟩ | ⟨e1, e2, e3⟩
  · rw [e]; exact ⟨A, h⟩
  · obtain ⟨A', hA⟩ := h.acked (h.ack x hx)
    exact ⟨A', hA.same e1 e2 e3⟩
/-- The end that takes an item of the way W to it, as one who is told. -/
theorem Link.told (h : Link f snt got S came W V A) {R : C} (hR : R.came = came) {x : Item} (hx : x ∈ W) :
    Link f snt (got ++ (R.take x.ns x.nr x.body).2) S (R.take x.ns x.nr x.body).1.came W V A := by
  unfold C.take
  split
  · simp only [List.append_nil]; rw [hR]; exact h
  split
  · simp only [List.append_nil]; rw [C.acked_came, hR]; exact h
  rename_i hb
  split
  · simp only [List.append_nil]; rw [C.acked_came, hR]; exact h
  · rename_i hns
    rw [C.acked_came, hR] at hns
    have hns : x.ns = came := by simpa using hns
    obtain ⟨a1, a2, a3, a4, a5, a6, a7, a8, a9, a10, a11⟩ := h
    obtain ⟨i, k1, k2, k3⟩ := a10 x hx hb
    have hi : i = got.length := by
      have : ((f + (i : Int)) % 65536 : Int) = (f + (got.length : Int)) % 65536 := by rw [← k2, hns, a3]
      omega
    subst hi
    refine ⟨a1, a2, ?_, ?_, ?_, ?_, a7, a8, a9, a10, ?_⟩
    · rw [C.acked_came, hR, a3]; simp only [List.length_append, List.length_singleton]; omega
    · simp only [List.length_append, List.length_singleton]
      rw [List.take_add_one, a4, k3]; rfl
    · simp only [List.length_append, List.length_singleton]; omega
    · simp only [List.length_append, List.length_singleton]; omega
    · intro y hy
      obtain ⟨r, h1, h2⟩ := a11 y hy
      exact ⟨r, by simp only [List.length_append, List.length_singleton]; omega, h2⟩

/-! ### both ways -/
structure Both (f window : Int) (n : Nat) (a b : C) (sa ga sb gb : List ByteArray) (wa wb : List Item) : Prop where
  fwd : ∃ A, Link f sa ga a b.came wa wb A
  bwd : ∃ B, Link f sb gb b a.came wb wa B
  fa : a.window = window ∧ (a.flies.length : Int) ≤ window
  fb : b.window = window ∧ (b.flies.length : Int) ≤ window
  few : sa.length + sb.length ≤ n
  n60 : n ≤ 60
variable {window : Int} {n : Nat} {a b : C} {sa ga sb gb : List ByteArray} {wa wb wa' wb' : List Item}
theorem Both.swap (h : Both f window n a b sa ga sb gb wa wb) : Both f window n b a sb gb sa ga wb wa :=
  ⟨h.bwd, h.fwd, h.fb, h.fa, by have := h.few; omega, h.n60⟩
theorem Both.new (hf : 0 ≤ f ∧ f ≤ 65535) (hw : 0 ≤ window) (q r t : Int) : Both f window 0 (C.new window q r t f) (C.new window q r t f) [] [] [] [] [] [] :=
  ⟨⟨0, Link.new f hf _ rfl rfl rfl⟩, ⟨0, Link.new f hf _ rfl rfl rfl⟩, ⟨rfl, by simpa [C.new] using hw⟩, ⟨rfl, by simpa [C.new] using hw⟩, by simp, by omega⟩
theorem Both.sub (h : Both f window n a b sa ga sb gb wa wb) (h1 : ∀ x ∈ wa', x ∈ wa) : Both f window n a b sa ga sb gb wa' wb := by
  obtain ⟨⟨A, hA⟩, ⟨B, hB⟩, h3, h4, h5, h6⟩ := h
  exact ⟨⟨A, hA.sub h1 (fun _ h => h)⟩, ⟨B, hB.sub (fun _ h => h) h1⟩, h3, h4, h5, h6⟩
theorem C.fit_of_win {window : Int} {c' : C} {g : Int} (h : c'.Win window g) : c'.window = window ∧ (c'.flies.length : Int) ≤ window := ⟨h.win, h.fly⟩
theorem C.win_of_fit {window : Int} {c : C} (h : c.window = window ∧ (c.flies.length : Int) ≤ window) : c.Win window (c.waits.length + c.flies.length) := ⟨h.1, h.2, by omega⟩
theorem Both.later (h : Both f window n a b sa ga sb gb wa wb) (hn : n < 60) : Both f window (n + 1) a b sa ga sb gb wa wb := { h with few := by have := h.few; omega, n60 := by omega }
theorem Both.send (h : Both f window n a b sa ga sb gb wa wb) (hn : n < 60) {m : ByteArray} (hm : m.size = 3) (h0 : (a.send m).2 = 0) :
    Both f window (n + 1) (a.send m).1 b (sa ++ [m]) ga sb gb wa wb := by
  obtain ⟨⟨A, hA⟩, ⟨B, hB⟩, h3, h4, h5, h6⟩ := h
  have hc : (a.send m).1.came = a.came := by unfold C.send; (repeat' split) <;> rfl
  exact ⟨⟨A, hA.send hm (by omega) h0⟩, ⟨B, by rw [hc]; exact hB⟩, C.fit_of_win  ((C.win_of_fit h3).send m), h4, by simp only [List.length_append, List.length_singleton]; omega, by omega⟩
theorem Both.unsent (h : Both f window n a b sa ga sb gb wa wb) (hn : n < 60) {m : ByteArray} (h0 : (a.send m).2 ≠ 0) : Both f window (n + 1) (a.send m).1 b sa ga sb gb wa wb := by
  rcases C.send_cases a m with ⟨e, _⟩ | ⟨_, e⟩
  · exact absurd e h0
  · rw [e]; exact h.later hn
theorem Both.tick (h : Both f window n a b sa ga sb gb wa wb) : Both f window n a.tick b sa ga sb gb wa wb := by
  obtain ⟨⟨A, hA⟩, ⟨B, hB⟩, h3, h4, h5, h6⟩ := h
  have e1 : a.tick.waits = a.waits := by unfold C.tick; (repeat' split) <;> rfl
  have e2 : a.tick.flies = a.flies := by unfold C.tick; (repeat' split) <;> rfl
  have e3 : a.tick.sent = a.sent := by unfold C.tick; (repeat' split) <;> rfl
  have e4 : a.tick.came = a.came := by unfold C.tick; (repeat' split) <;> rfl
  have e5 : a.tick.window = a.window := by unfold C.tick; (repeat' split) <;> rfl
  exact ⟨⟨A, hA.same e2 e1 e3⟩, ⟨B, by rw [e4]; exact hB⟩, by rw [e5, e2]; exact h3, h4, h5, h6⟩
theorem Both.out (h : Both f window n a b sa ga sb gb wa wb) : Both f window n a.out.1 b sa ga sb gb (wa ++ a.out.2) wb := by
  obtain ⟨⟨A, hA⟩, ⟨B, hB⟩, h3, h4, h5, h6⟩ := h
  obtain ⟨k1, k2⟩ := hA.out
  exact ⟨⟨A, k1⟩, ⟨B, by rw [C.out_came]; exact hB.heard k2⟩, C.fit_of_win  (C.win_of_fit h3).out, h4, h5, h6⟩
/-- b takes what a said. -/
theorem Both.take (h : Both f window n a b sa ga sb gb wa wb) {x : Item} (hx : x ∈ wa) :
    Both f window n a (b.take x.ns x.nr x.body).1 sa (ga ++ (b.take x.ns x.nr x.body).2) sb gb wa wb := by
  obtain ⟨⟨A, hA⟩, ⟨B, hB⟩, h3, h4, h5, h6⟩ := h
  obtain ⟨B', hB'⟩ := hB.taken hx
  exact ⟨⟨A, hA.told rfl hx⟩, ⟨B', hB'⟩, h3, C.fit_of_win  ((C.win_of_fit h4).take x.ns x.nr x.body), h5, h6⟩
theorem Both.good (h : Both f window n a b sa ga sb gb wa wb) : ga.length ≤ sa.length ∧ sa.take ga.length = ga ∧ gb.length ≤ sb.length ∧ sb.take gb.length = gb ∧ (a.flies.length : Int) ≤ window ∧ (b.flies.length : Int) ≤ window := by
  obtain ⟨⟨A, hA⟩, ⟨B, hB⟩, h3, h4, h5, h6⟩ := h
  have := hA.len
  have := hA.top
  have := hB.len
  have := hB.top
  exact ⟨by omega, hA.pre, by omega, hB.pre, h3.2, h4.2⟩
end Go.Proofs.Ytclodmcdimaccaa
