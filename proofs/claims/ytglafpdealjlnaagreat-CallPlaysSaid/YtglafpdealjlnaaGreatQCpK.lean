/- Plain: what holds of each end of a call on its way, and of what it says. No program in sight but the specification's functions. -/
import Derived.Test.YtglafpdealjlnaaGreatQRCallP
import Derived.Test.YtglafpdealjlnaaGreatQCallH
namespace Go.Proofs.YtglafpdealjlnaaGreat
open Go.RowKit
set_option linter.unusedSimpArgs false
set_option linter.unusedVariables false

structure KOk (q : Nat) (k : K) : Prop where
  ok : k.ok
  inv : k.inv
  id : 1 ≤ k.id ∧ k.id ≤ 65535
  ser : 0 ≤ k.serial ∧ k.serial ≤ 4294967295
  w : k.wens + q ≤ 1000000
  s : k.slis + q ≤ 1000000
  gl : k.got.length ≤ 5000
  wl : ∀ a ∈ k.with_, a.val.size ≤ maxLen
structure SyOk (s : Sy) : Prop where
  sz : ∀ a ∈ s.2, a.val.size ≤ maxLen
  n : s.2.length ≤ 5000
/-- What is said is good, and little. -/
structure SaysOk (n : Nat) (l : List Sy) : Prop where
  all : ∀ s ∈ l, SyOk s
  le : l.length ≤ n
theorem SaysOk.nil (n : Nat) : SaysOk n [] := ⟨by simp, by simp⟩
theorem SaysOk.mono {n m : Nat} {l : List Sy} (h : SaysOk n l) (hn : n ≤ m) : SaysOk m l := ⟨h.all, Nat.le_trans h.le hn⟩
theorem SaysOk.app {n m : Nat} {l r : List Sy} (h : SaysOk n l) (k : SaysOk m r) : SaysOk (n + m) (l ++ r) :=
  ⟨fun s hs => (List.mem_append.1 hs).elim (h.all s) (k.all s), by rw [List.length_append]; have := h.le; have := k.le; omega⟩
theorem SaysOk.one {s : Sy} (h : SyOk s) : SaysOk 1 [s] := ⟨by simpa using h, Nat.le_refl _⟩
theorem SaysOk.tail {n : Nat} {s : Sy} {l : List Sy} (h : SaysOk (n + 1) (s :: l)) : SaysOk n l := ⟨fun x hx => h.all x (by simp [hx]), by have := h.le; simp at this; omega⟩
theorem KOk.mono {q q' : Nat} {k : K} (h : KOk q k) (hq : q' ≤ q) : KOk q' k :=
  ⟨h.ok, h.inv, h.id, h.ser, by have := h.w; omega, by have := h.s; omega, h.gl, h.wl⟩
theorem KOk.new {q : Nat} (hq : q ≤ 1000000) {id serial : Int} {out : Bool} (h1 : 1 ≤ id ∧ id ≤ 65535) (h2 : 0 ≤ serial ∧ serial ≤ 4294967295) : KOk q (K.new id serial out) :=
  ⟨K.new_ok _ _ _, ⟨fun _ => rfl, .inl rfl⟩, h1, h2, by show (0 : Int) + q ≤ _; omega, by show (0 : Int) + q ≤ _; omega, by show 0 ≤ _; omega, by intro a ha; cases ha⟩
theorem KOk.say {q : Nat} {k : K} (h : KOk q k) (kind : Int) (l : List Av) (hl : ∀ a ∈ l, a.val.size ≤ maxLen) (hn : l.length ≤ 4000) : SyOk (k.say kind l) := by
  refine ⟨fun a ha => ?_, ?_⟩
  · rcases List.mem_cons.1 ha with rfl | ha
    · exact numAv_small _ _ _ (by omega)
    · exact hl a ha
  · show (_ :: l).length ≤ _
    rw [List.length_cons]; omega
theorem KOk.with_ {q : Nat} {k : K} (h : KOk q k) {l : List Av} (hn : l.length ≤ 1000) (hl : ∀ a ∈ l, a.val.size ≤ maxLen) : KOk q { k with with_ := l } :=
  ⟨⟨h.ok.m, h.ok.w1, h.ok.w2, h.ok.s1, h.ok.s2, hn, h.ok.g⟩, ⟨h.inv.p, h.inv.st⟩, h.id, h.ser, h.w, h.s, h.gl, hl⟩
theorem K.own_small (k : K) : k.own.val.size ≤ maxLen := numAv_small _ _ _ (by omega)
theorem KOk.fin {q : Nat} {k : K} (h : KOk q k) (code : Int) : KOk q (k.fin code).1 ∧ SaysOk 1 (k.fin code).2 := by
  refine ⟨⟨K.fin_ok h.ok code, ⟨fun hs => ?_, .inr (.inr (.inr (.inr rfl)))⟩, h.id, h.ser, h.w, h.s, h.gl, h.wl⟩, .one (h.say _ _ ?_ (by simp))⟩
  · rcases hs with hs | hs <;> exact absurd hs (show ¬ (4 : Int) = _ by decide)
  · intro a ha
    simp only [List.mem_cons, List.not_mem_nil, or_false] at ha
    rcases ha with rfl | rfl
    · exact numAv_small _ _ _ (by omega)
    · exact k.own_small
theorem KOk.openC {q : Nat} {k : K} (h : KOk q k) : KOk q k.openC.1 ∧ SaysOk 1 k.openC.2 := by
  have hok := K.openC_ok h.ok
  unfold K.openC at *
  split at hok
  · rename_i t
    rw [if_pos t]
    refine ⟨⟨hok, ⟨fun _ => h.inv.p (.inl t), .inr (.inl rfl)⟩, h.id, h.ser, h.w, h.s, h.gl, h.wl⟩, .one (h.say _ _ ?_ (by simp))⟩
    intro a ha
    simp only [List.mem_cons, List.not_mem_nil, or_false] at ha
    rcases ha with rfl | rfl
    · exact k.own_small
    · exact numAv_small _ _ _ (by omega)
  · rename_i t
    rw [if_neg t]
    exact ⟨h, .nil _⟩
theorem KOk.close {q : Nat} {k : K} (h : KOk q k) (code : Int) : KOk q (k.close code).1 ∧ SaysOk 1 (k.close code).2 := by
  have hok := K.close_ok h.ok code
  unfold K.close at *
  split
  · exact ⟨h, .nil _⟩
  · split
    · rename_i t4 t0
      rw [if_neg t4, if_pos t0] at hok
      refine ⟨⟨hok, ⟨fun hs => ?_, .inr (.inr (.inr (.inr rfl)))⟩, h.id, h.ser, h.w, h.s, h.gl, h.wl⟩, .nil _⟩
      rcases hs with hs | hs <;> exact absurd hs (show ¬ (4 : Int) = _ by decide)
    · exact h.fin code
theorem KOk.tell {q : Nat} {k : K} (h : KOk q k) (kind value : Int) (text : ByteArray) : SaysOk 1 (k.tell kind value text) := by
  unfold K.tell
  split
  · exact .nil _
  · rename_i t
    have t2 : text.size ≤ 1000 := by
      have := fun hh => t (.inr hh)
      omega
    refine .one (h.say _ _ ?_ (by simp))
    intro a ha
    simp only [List.mem_cons, List.not_mem_nil, or_false] at ha
    subst ha
    show text.size ≤ _
    simp only [maxLen]; omega
theorem KOk.conn {q : Nat} {k : K} (h : KOk q k) : SyOk k.conn := by
  have hh := h.ok.h
  refine h.say _ _ ?_ (by rw [List.length_append]; simp only [List.length_cons, List.length_nil]; omega)
  intro a ha
  rcases List.mem_append.1 ha with ha | ha
  · simp only [List.mem_cons, List.not_mem_nil, or_false] at ha
    rcases ha with rfl | rfl <;> exact numAv_small _ _ _ (by omega)
  · exact h.wl a ha
/-- Another state and another peer. -/
theorem KOk.moved {q : Nat} {k : K} (h : KOk q k) (s p : Int) (hs : s = 2 ∨ s = 3) : KOk q { k with state := s, peer := p } :=
  ⟨h.ok.same rfl rfl rfl rfl rfl, ⟨fun hx => by
    have hx2 : s = 0 ∨ s = 1 := hx
    omega, by rcases hs with rfl | rfl; exact .inr (.inr (.inl rfl)); exact .inr (.inr (.inr (.inl rfl)))⟩, h.id, h.ser, h.w, h.s, h.gl, h.wl⟩
theorem KOk.reply {q : Nat} {k : K} (h : KOk q k) (p kd : Int) : SyOk (({ k with peer := p } : K).say kd [k.own]) := by
  refine ⟨fun a ha => ?_, by show (_ :: [_]).length ≤ _; simp⟩
  have ha' : a ∈ numAv 0 kd 2 :: [k.own] := ha
  simp only [List.mem_cons, List.not_mem_nil, or_false] at ha'
  rcases ha' with rfl | rfl
  · exact numAv_small _ _ _ (by omega)
  · exact k.own_small
theorem KOk.named {q : Nat} {k : K} (h : KOk q k) (l : List Av) : KOk q (k.named l).1 ∧ SaysOk 2 (k.named l).2 := by
  unfold K.named
  split
  · -- no number
    have h1 : KOk q { k.named1 l with state := 4 } := by
      refine ⟨h.ok.same rfl rfl rfl rfl rfl, ⟨fun hs => ?_, .inr (.inr (.inr (.inr rfl)))⟩, h.id, h.ser, h.w, h.s, h.gl, h.wl⟩
      rcases hs with hs | hs <;> exact absurd hs (show ¬ (4 : Int) = _ by decide)
    refine ⟨h1, SaysOk.mono (.one ⟨fun a ha => ?_, by show (_ :: [_, _]).length ≤ _; simp⟩) (by omega)⟩
    have ha' : a ∈ numAv 0 14 2 :: [numAv 1 3 2, (k.named1 l).own] := ha
    simp only [List.mem_cons, List.not_mem_nil, or_false] at ha'
    rcases ha' with rfl | rfl | rfl
    · exact numAv_small _ _ _ (by omega)
    · exact numAv_small _ _ _ (by omega)
    · exact K.own_small _
  · split
    · refine ⟨h.moved 3 _ (.inr rfl), ?_⟩
      have hc : SyOk (k.named1 l).conn := (h.moved 3 (numberAv l 14).1 (.inr rfl)).conn
      split
      · exact SaysOk.app (.one (h.reply _ _)) (.one hc)
      · exact SaysOk.mono (.one hc) (by omega)
    · refine ⟨h.moved 2 _ (.inl rfl), ?_⟩
      split
      · exact SaysOk.mono (.one (h.reply _ _)) (by omega)
      · exact .nil _
theorem KOk.handle {q : Nat} {k : K} (h : KOk (q + 1) k) (kind does : Int) (l : List Av) (hl : ∀ a ∈ l, a.val.size ≤ maxLen) (hn : l.length ≤ 5000) : KOk q (k.handle kind does l).1 ∧ SaysOk 2 (k.handle kind does l).2 := by
  have h0 := h.mono (q' := q) (by omega)
  have hw := h.w
  have hs := h.s
  unfold K.handle
  split
  · exact h0.named l
  split
  · refine ⟨⟨⟨h.ok.m, h.ok.w1, h.ok.w2, h.ok.s1, h.ok.s2, h.ok.h, hl⟩, ⟨fun hx => ?_, .inr (.inr (.inr (.inl rfl)))⟩, h.id, h.ser, h0.w, h0.s, hn, h.wl⟩, .nil _⟩
    rcases hx with hx | hx <;> exact absurd hx (show ¬ (3 : Int) = _ by decide)
  split
  · refine ⟨⟨⟨h.ok.m, ?_, ?_, h.ok.s1, h.ok.s2, h.ok.h, h.ok.g⟩, ⟨h.inv.p, h.inv.st⟩, h.id, h.ser, ?_, h0.s, h.gl, h.wl⟩, .nil _⟩
    · have := h.ok.w1; show 0 ≤ min _ _; omega
    · show min _ _ ≤ _; omega
    · show min _ _ + (q : Int) ≤ _; omega
  split
  · refine ⟨⟨⟨h.ok.m, h.ok.w1, h.ok.w2, ?_, ?_, h.ok.h, h.ok.g⟩, ⟨h.inv.p, h.inv.st⟩, h.id, h.ser, h0.w, ?_, h.gl, h.wl⟩, .nil _⟩
    · have := h.ok.s1; show 0 ≤ min _ _; omega
    · show min _ _ ≤ _; omega
    · show min _ _ + (q : Int) ≤ _; omega
  · exact ⟨h0, .nil _⟩
theorem KOk.take {q : Nat} {k : K} (h : KOk (q + 1) k) {l : List Av} (hl : ∀ a ∈ l, a.val.size ≤ maxLen) (hn : l.length ≤ 5000) : KOk q (k.take l).1 ∧ SaysOk 2 (k.take l).2 := by
  have h0 := h.mono (q' := q) (by omega)
  unfold K.take
  split
  · exact ⟨h0, .nil _⟩
  split
  · exact ⟨h0, .nil _⟩
  split
  · exact ⟨(h0.fin 2).1, (h0.fin 2).2.mono (by omega)⟩
  split
  · refine ⟨⟨h.ok.same rfl rfl rfl rfl rfl, ⟨fun hs => ?_, .inr (.inr (.inr (.inr rfl)))⟩, h.id, h.ser, h0.w, h0.s, h.gl, h.wl⟩, .nil _⟩
    rcases hs with hs | hs <;> exact absurd hs (show ¬ (4 : Int) = _ by decide)
  · exact h.handle _ _ l hl hn
end Go.Proofs.YtglafpdealjlnaaGreat
