/- Plain: messages of calls that one end sends are told at the other one, in order. No program in sight. -/
import Derived.Test.YtolfjfkkbhbbbaaGreatQTunEv
namespace Go.Proofs.YtolfjfkkbhbbbaaGreat
open Go.RowKit
set_option linter.unusedSimpArgs false
set_option linter.unusedVariables false

/-! ### the channel does not look into bodies -/
def C.mp (f : ByteArray → ByteArray) (c : C) : C := { c with waits := c.waits.map f, flies := c.flies.map f }
def Item.mp (f : ByteArray → ByteArray) (i : Item) : Item := ⟨i.ns, i.nr, f i.body⟩
structure Blind (f : ByteArray → ByteArray) : Prop where
  none : f ⟨#[]⟩ = ⟨#[]⟩
  size : ∀ b, (f b).size = 0 ↔ b.size = 0
section
variable {f : ByteArray → ByteArray}
theorem hd_map (hf : Blind f) (l : List ByteArray) : hd (l.map f) = f (hd l) := by
  cases l with
  | nil => exact hf.none.symm
  | cons a r => rfl
theorem mp_grow (c : C) : (c.mp f).grow = c.grow.mp f := by
  unfold C.grow C.mp
  dsimp only
  split
  · rfl
  split <;> rfl
theorem mp_pop (c : C) : (c.mp f).pop = c.pop.mp f := by
  unfold C.pop
  rw [← mp_grow]
  congr 1
  simp [C.mp, List.map_tail]
theorem mp_first (c : C) : (c.mp f).first = c.first := by simp [C.first, C.mp]
theorem mp_ackLoop (nr : Int) : ∀ (n : Nat) (c : C), C.ackLoop nr n (c.mp f) = (C.ackLoop nr n c).mp f
  | 0, c => rfl
  | n + 1, c => by
    rw [C.ackLoop, C.ackLoop, mp_first, show (c.mp f).flies.length = c.flies.length by simp [C.mp]]
    split
    · rw [mp_pop, mp_ackLoop nr n]
    · rfl
theorem mp_acked (c : C) (nr : Int) : (c.mp f).acked nr = (c.acked nr).mp f := by
  unfold C.acked
  rw [mp_first, show (c.mp f).sent = c.sent from rfl, show (c.mp f).flies.length = c.flies.length by simp [C.mp]]
  split
  · rfl
  · exact mp_ackLoop _ _ _
theorem mp_take (hf : Blind f) (c : C) (ns nr : Int) (b : ByteArray) : (c.mp f).take ns nr (f b) = ((c.take ns nr b).1.mp f, (c.take ns nr b).2.map f) := by
  unfold C.take
  rw [mp_acked, show (c.mp f).dead = c.dead from rfl, show ((c.acked nr).mp f).came = (c.acked nr).came from rfl]
  by_cases h1 : c.dead = true ∨ ¬ (0 ≤ ns ∧ ns ≤ 65535) ∨ ¬ (0 ≤ nr ∧ nr ≤ 65535)
  · rw [if_pos h1, if_pos h1]; rfl
  rw [if_neg h1, if_neg h1]
  by_cases h2 : b.size = 0
  · rw [if_pos h2, if_pos ((hf.size b).2 h2)]; rfl
  rw [if_neg h2, if_neg (fun h => h2 ((hf.size b).1 h))]
  by_cases h3 : ns ≠ (c.acked nr).came
  · rw [if_pos h3, if_pos h3]; rfl
  · rw [if_neg h3, if_neg h3]; rfl
theorem mp_fly (hf : Blind f) (c : C) : (c.mp f).fly = c.fly.mp f := by
  simp [C.fly, C.mp, List.map_tail, hd_map hf]
theorem mp_flyItem (hf : Blind f) (c : C) : (c.mp f).flyItem = c.flyItem.mp f := by
  simp [C.flyItem, C.mp, Item.mp, hd_map hf]
theorem mp_outLoop (hf : Blind f) : ∀ (n : Nat) (c : C) (l : List Item), C.outLoop n (c.mp f, l.map (Item.mp f)) = ((C.outLoop n (c, l)).1.mp f, (C.outLoop n (c, l)).2.map (Item.mp f))
  | 0, c, l => rfl
  | n + 1, c, l => by
    rw [C.outLoop, C.outLoop, show (c.mp f).waits.length = c.waits.length by simp [C.mp], show (c.mp f).flies.length = c.flies.length by simp [C.mp], show (c.mp f).room = c.room from rfl, show (c.mp f).window = c.window from rfl]
    split
    · rw [mp_fly hf, mp_flyItem hf, ← mp_outLoop hf n c.fly (l ++ [c.flyItem]), List.map_append]
      rfl
    · rfl
theorem mp_outAgain (hf : Blind f) (c : C) : (c.mp f).outAgain = c.outAgain.map (Item.mp f) := by
  unfold C.outAgain
  rw [mp_first, show (c.mp f).again = c.again from rfl, show (c.mp f).flies.length = c.flies.length by simp [C.mp], show (c.mp f).flies = c.flies.map f from rfl, hd_map hf]
  split <;> rfl
theorem mp_out (hf : Blind f) (c : C) : (c.mp f).out = (c.out.1.mp f, c.out.2.map (Item.mp f)) := by
  unfold C.out
  rw [show (c.mp f).dead = c.dead from rfl, show (c.mp f).waits.length = c.waits.length by simp [C.mp], mp_outAgain hf, mp_outLoop hf]
  split
  · rfl
  · generalize C.outLoop c.waits.length (c, c.outAgain) = p
    obtain ⟨q, l⟩ := p
    unfold C.outEnd
    dsimp only
    rw [show (q.mp f).owed = q.owed from rfl]
    by_cases h : l = [] ∧ q.owed = true
    · obtain ⟨rfl, ho⟩ := h
      have hn : f ByteArray.empty = ByteArray.empty := hf.none
      simp [ho, C.mp, Item.mp, hn]
    · have h2 : ¬ (l.map (Item.mp f) = [] ∧ q.owed = true) := fun h0 => h ⟨by simpa using h0.1, h0.2⟩
      rw [if_neg h, if_neg h2]
      rfl
end
theorem take_two (c : C) (ns nr : Int) (b : ByteArray) : (c.take ns nr b).2 = [] ∨ (c.take ns nr b).2 = [b] := by
  unfold C.take
  (repeat' split) <;> simp

/-! ### the messages -/
def caL (k : Nat) : List Av := [numAv 0 15 2, txtAv 34 (strOfNums [(k : Int)])]
theorem caL_clear (k : Nat) : Clear (caL k) := ⟨by simp [caL], by simp [caL], fun a ha => by
  simp only [caL, List.mem_cons, List.not_mem_nil, or_false] at ha
  rcases ha with rfl | rfl
  · exact ⟨rfl, ⟨by decide, by decide⟩, rfl, by simp [numAv, be_size]⟩
  · exact ⟨rfl, ⟨by simp [txtAv], by simp [txtAv]⟩, rfl, by show (strOfNums [(k : Int)]).size ≤ 100; rw [strOfNums_size]; simp⟩⟩
theorem caL_kind (k : Nat) : kindOf (caL k) = 15 := kind_num 15 (by omega) _
def caB (s : Int) (k : Nat) : ByteArray := bodyC s (caL k)
/-- A body's stand-in: what the kernel plays with. -/
def cod (k : Nat) : ByteArray := ⟨#[UInt8.ofNat (k + 1)]⟩
def uncod (b : ByteArray) : Nat := (b.get! 0).toNat - 1
def dec (ss : List Int) (b : ByteArray) : ByteArray := if b.size = 0 then ⟨#[]⟩ else caB (ss.getD (uncod b) 0) (uncod b)
theorem dec_blind (ss : List Int) : Blind (dec ss) := by
  refine ⟨rfl, fun b => ?_⟩
  unfold dec
  split
  · rename_i h; exact ⟨fun _ => h, fun _ => rfl⟩
  · rename_i h
    have := (bodyC_size (caL_clear (uncod b)) (ss.getD (uncod b) 0)).1
    exact ⟨fun h0 => by unfold caB at h0; omega, fun h0 => absurd h0 h⟩
def tl (ss : List Int) (cid : Int) (b : ByteArray) : Cm := ⟨cid, ss.getD (uncod b) 0, 0, 0, caL (uncod b)⟩

/-! ### two live ends -/
def liveW (T : Tn) (c : C) : Tn := { T with quiet := 0, way := c, state := 3, told := false }
def tell : Tn → List ByteArray → List Cm
  | _, [] => []
  | t, s :: r => (t.take s).2 ++ tell (t.take s).1 r
theorem tell_snoc (s : ByteArray) : ∀ (l : List ByteArray) (t : Tn), tell t (l ++ [s]) = tell t l ++ ((feed t l).take s).2
  | [], t => by show (t.take s).2 ++ [] = [] ++ (t.take s).2; simp
  | x :: l, t => by
    show (t.take x).2 ++ tell (t.take x).1 (l ++ [s]) = ((t.take x).2 ++ tell (t.take x).1 l) ++ _
    rw [tell_snoc s l, List.append_assoc]
    rfl
theorem tell_append : ∀ (l m : List ByteArray) (t : Tn), tell t (l ++ m) = tell t l ++ tell (feed t l) m
  | [], m, t => rfl
  | x :: l, m, t => by
    show (t.take x).2 ++ tell (t.take x).1 (l ++ m) = ((t.take x).2 ++ tell (t.take x).1 l) ++ _
    rw [tell_append l m, List.append_assoc]
    rfl
def toldN : Nat → Tn × Tn → List Cm
  | 0, _ => []
  | n + 1, p => toldN n p ++ tell (meetN n p).2 (meetN n p).1.out.2
def smFeed (c : C) : List Item → C × List ByteArray
  | [] => (c, [])
  | i :: l => ((smFeed (c.take i.ns i.nr i.body).1 l).1, (c.take i.ns i.nr i.body).2 ++ (smFeed (c.take i.ns i.nr i.body).1 l).2)
structure Sm where
  a : C
  b : C
  t : List ByteArray
def Sm.next (p : Sm) : Sm := ⟨(smFeed p.a.out.1 (smFeed p.b p.a.out.2).1.out.2).1, (smFeed p.b p.a.out.2).1.out.1, p.t ++ (smFeed p.b p.a.out.2).2⟩
def okI (i : Item) : Bool := decide (0 ≤ i.ns) && decide (i.ns < 65536) && decide (0 ≤ i.nr) && decide (i.nr < 65536) && (decide (i.body = ⟨#[]⟩) || decide (i.body.size ≠ 0))
def Sm.ok (p : Sm) : Bool := p.a.out.2.all okI && (smFeed p.b p.a.out.2).1.out.2.all okI
def Sm.nexts : Nat → Sm → Sm
  | 0, p => p
  | n + 1, p => (Sm.nexts n p).next
def sm0 (n : Nat) : Sm := ⟨chn 2 1 ((List.range n).map cod) [] 3 0 false, chn 1 2 [] [] 2 0 false, []⟩
def smChk : Nat → Sm → List ByteArray → Bool
  | 0, p, w => decide (p.t = w)
  | n + 1, p, w => p.ok && smChk n p.next w
theorem smChk_9 : (List.range 9).all (fun n => smChk 20 (sm0 n) ((List.range n).map cod)) = true := by decide +kernel
theorem nexts_succ : ∀ (n : Nat) (p : Sm), Sm.nexts (n + 1) p = Sm.nexts n p.next
  | 0, _ => rfl
  | n + 1, p => by rw [Sm.nexts, nexts_succ n p]; rfl
theorem smChk_all (w : List ByteArray) : ∀ (n : Nat) (p : Sm), smChk n p w = true → (Sm.nexts n p).t = w ∧ ∀ k, k < n → (Sm.nexts k p).ok = true
  | 0, p, h => ⟨of_decide_eq_true h, fun k hk => absurd hk (by omega)⟩
  | n + 1, p, h => by
    simp only [smChk, Bool.and_eq_true] at h
    have := smChk_all w n p.next h.2
    refine ⟨by rw [nexts_succ]; exact this.1, fun k hk => ?_⟩
    cases k with
    | zero => exact h.1
    | succ k => rw [nexts_succ]; exact this.2 k (by omega)
section
variable {ss : List Int} {T : Tn} {c : C}
theorem live_out : (liveW T c).out = (liveW T c.out.1, c.out.2.map (sayM T.id)) := by
  unfold Tn.out
  rw [if_neg (show ¬ (liveW T c).told = true from fun h => by cases h)]
  rfl
theorem live_take (hs : ∀ k, 0 ≤ ss.getD k 0 ∧ ss.getD k 0 < 65536) (hc : 0 ≤ T.cid ∧ T.cid < 65536) {i : Item} (hi : okI i = true) :
    (liveW T (c.mp (dec ss))).take (sayM T.cid (i.mp (dec ss))) = (liveW T ((c.take i.ns i.nr i.body).1.mp (dec ss)), (c.take i.ns i.nr i.body).2.map (tl ss T.cid)) := by
  obtain ⟨ns, nr, b⟩ := i
  simp only [okI, Bool.and_eq_true, Bool.or_eq_true, decide_eq_true_eq] at hi
  obtain ⟨⟨⟨⟨h1, h2⟩, h3⟩, h4⟩, h5⟩ := hi
  have hm := mp_take (dec_blind ss) c ns nr b
  rcases h5 with rfl | h5
  · show (liveW T (c.mp (dec ss))).take (sayM T.cid ⟨ns, nr, ⟨#[]⟩⟩) = _
    rw [take_ack ⟨hc, by omega, ⟨h1, h2⟩, ⟨h3, h4⟩⟩ _ (show (liveW T (c.mp (dec ss))).state ≠ 4 from by show (3 : Int) ≠ 4; decide), takeM_mine _ _ _ rfl (.inl (by show kindOf [] ≠ 1; decide))]
    have h0 : (c.take ns nr ⟨#[]⟩).2 = [] := by
      unfold C.take
      split
      · rfl
      · rw [if_pos (show ByteArray.size ⟨#[]⟩ = 0 from rfl)]
    have hm' : (c.mp (dec ss)).take ns nr ⟨#[]⟩ = ((c.take ns nr ⟨#[]⟩).1.mp (dec ss), []) := by
      have := hm
      rw [h0] at this
      exact this
    unfold Tn.hear
    rw [if_pos (show ((liveW T (c.mp (dec ss))).way.take ns nr ⟨#[]⟩).2 = [] from by show ((c.mp (dec ss)).take ns nr ⟨#[]⟩).2 = []; rw [hm'])]
    show (({ liveW T (c.mp (dec ss)) with quiet := 0, way := ((c.mp (dec ss)).take ns nr ⟨#[]⟩).1 } : Tn), ([] : List Cm)) = (liveW T ((c.take ns nr ⟨#[]⟩).1.mp (dec ss)), ((c.take ns nr ⟨#[]⟩).2).map (tl ss T.cid))
    rw [hm', h0]
    rfl
  · have hb : dec ss b = bodyC (ss.getD (uncod b) 0) (caL (uncod b)) := by unfold dec; rw [if_neg h5]; rfl
    show (liveW T (c.mp (dec ss))).take (sayM T.cid ⟨ns, nr, dec ss b⟩) = _
    rw [hb] at hm ⊢
    rw [take_clear ⟨hc, hs _, ⟨h1, h2⟩, ⟨h3, h4⟩⟩ (caL_clear _) _ (show (liveW T (c.mp (dec ss))).state ≠ 4 from by show (3 : Int) ≠ 4; decide), takeM_mine _ _ _ rfl (.inl (by show kindOf (caL _) ≠ 1; rw [caL_kind]; decide))]
    unfold Tn.hear
    rcases take_two c ns nr b with h0 | h0
    · rw [h0] at hm
      rw [if_pos (show ((liveW T (c.mp (dec ss))).way.take ns nr (bodyC (ss.getD (uncod b) 0) (caL (uncod b)))).2 = [] from by show ((c.mp (dec ss)).take ns nr _).2 = []; rw [hm]; rfl)]
      show (({ liveW T (c.mp (dec ss)) with quiet := 0, way := ((c.mp (dec ss)).take ns nr (bodyC (ss.getD (uncod b) 0) (caL (uncod b)))).1 } : Tn), ([] : List Cm)) = (liveW T ((c.take ns nr b).1.mp (dec ss)), ((c.take ns nr b).2).map (tl ss T.cid))
      rw [hm, h0]
      rfl
    · rw [h0] at hm
      rw [if_neg (show ¬ ((liveW T (c.mp (dec ss))).way.take ns nr (bodyC (ss.getD (uncod b) 0) (caL (uncod b)))).2 = [] from by show ¬ ((c.mp (dec ss)).take ns nr _).2 = []; rw [hm]; simp)]
      unfold Tn.handle
      rw [if_pos (show isCallK (kindOf (caL (uncod b))) = true by rw [caL_kind]; decide)]
      rw [if_neg (show ¬ (({ liveW T (c.mp (dec ss)) with quiet := 0, way := ((c.mp (dec ss)).take ns nr (bodyC (ss.getD (uncod b) 0) (caL (uncod b)))).1 } : Tn)).state ≠ 3 from fun h => h rfl)]
      show (({ liveW T (c.mp (dec ss)) with quiet := 0, way := ((c.mp (dec ss)).take ns nr (bodyC (ss.getD (uncod b) 0) (caL (uncod b)))).1 } : Tn), ([⟨T.cid, ss.getD (uncod b) 0, 0, 0, caL (uncod b)⟩] : List Cm)) = (liveW T ((c.take ns nr b).1.mp (dec ss)), ((c.take ns nr b).2).map (tl ss T.cid))
      rw [hm, h0]
      rfl
theorem live_feed (hs : ∀ k, 0 ≤ ss.getD k 0 ∧ ss.getD k 0 < 65536) (hc : 0 ≤ T.cid ∧ T.cid < 65536) : ∀ (l : List Item) (c : C), l.all okI = true →
    feed (liveW T (c.mp (dec ss))) (l.map (fun i => sayM T.cid (i.mp (dec ss)))) = liveW T ((smFeed c l).1.mp (dec ss)) ∧ tell (liveW T (c.mp (dec ss))) (l.map (fun i => sayM T.cid (i.mp (dec ss)))) = (smFeed c l).2.map (tl ss T.cid)
  | [], c, _ => ⟨rfl, rfl⟩
  | i :: l, c, hi => by
    simp only [List.all_cons, Bool.and_eq_true] at hi
    have h1 := live_take (c := c) hs hc hi.1
    have h2 := live_feed hs hc l (c.take i.ns i.nr i.body).1 hi.2
    constructor
    · show feed ((liveW T (c.mp (dec ss))).take (sayM T.cid (i.mp (dec ss)))).1 (l.map (fun i => sayM T.cid (i.mp (dec ss)))) = _
      rw [h1]
      exact h2.1
    · show ((liveW T (c.mp (dec ss))).take (sayM T.cid (i.mp (dec ss)))).2 ++ tell ((liveW T (c.mp (dec ss))).take (sayM T.cid (i.mp (dec ss)))).1 (l.map (fun i => sayM T.cid (i.mp (dec ss)))) = _
      rw [h1]
      dsimp only
      rw [h2.2, ← List.map_append]
      rfl
end
def Sm.on (p : Sm) (ss : List Int) (A B : Tn) : Tn × Tn := (liveW A (p.a.mp (dec ss)), liveW B (p.b.mp (dec ss)))
theorem sm_meet {ss : List Int} {A B : Tn} (hs : ∀ k, 0 ≤ ss.getD k 0 ∧ ss.getD k 0 < 65536) (hab : A.id = B.cid) (hba : B.id = A.cid) (hA : 0 ≤ A.cid ∧ A.cid < 65536) (hB : 0 ≤ B.cid ∧ B.cid < 65536) {p : Sm} (hok : p.ok = true) :
    meet1 (p.on ss A B) = p.next.on ss A B ∧ tell (p.on ss A B).2 (p.on ss A B).1.out.2 = (smFeed p.b p.a.out.2).2.map (tl ss B.cid) := by
  simp only [Sm.ok, Bool.and_eq_true] at hok
  have e1 : (p.on ss A B).1.out = (liveW A (p.a.out.1.mp (dec ss)), p.a.out.2.map (fun i => sayM B.cid (i.mp (dec ss)))) := by
    show (liveW A (p.a.mp (dec ss))).out = _
    rw [live_out, mp_out (dec_blind ss), List.map_map, hab]
    rfl
  have f1 := live_feed (T := B) hs hB p.a.out.2 p.b hok.1
  have e2 : (liveW B ((smFeed p.b p.a.out.2).1.mp (dec ss))).out = (liveW B ((smFeed p.b p.a.out.2).1.out.1.mp (dec ss)), (smFeed p.b p.a.out.2).1.out.2.map (fun i => sayM A.cid (i.mp (dec ss)))) := by
    rw [live_out, mp_out (dec_blind ss), List.map_map, hba]
    rfl
  have f2 := live_feed (T := A) hs hA (smFeed p.b p.a.out.2).1.out.2 p.a.out.1 hok.2
  constructor
  · unfold meet1
    rw [e1]
    dsimp only
    rw [show (p.on ss A B).2 = liveW B (p.b.mp (dec ss)) from rfl, f1.1, e2]
    dsimp only
    rw [f2.1]
    rfl
  · rw [e1]
    exact f1.2
theorem sm_rounds {ss : List Int} {A B : Tn} (hs : ∀ k, 0 ≤ ss.getD k 0 ∧ ss.getD k 0 < 65536) (hab : A.id = B.cid) (hba : B.id = A.cid) (hA : 0 ≤ A.cid ∧ A.cid < 65536) (hB : 0 ≤ B.cid ∧ B.cid < 65536) {p : Sm} (ht : p.t = []) :
    ∀ n, (∀ k, k < n → (Sm.nexts k p).ok = true) → meetN n (p.on ss A B) = (Sm.nexts n p).on ss A B ∧ toldN n (p.on ss A B) = (Sm.nexts n p).t.map (tl ss B.cid)
  | 0, _ => ⟨rfl, by show [] = p.t.map _; rw [ht]; rfl⟩
  | n + 1, h => by
    have ih := sm_rounds hs hab hba hA hB ht n (fun k hk => h k (by omega))
    have h1 := sm_meet hs hab hba hA hB (h n (by omega))
    constructor
    · show meet1 (meetN n (p.on ss A B)) = _
      rw [ih.1, h1.1]
      rfl
    · show toldN n (p.on ss A B) ++ tell (meetN n (p.on ss A B)).2 (meetN n (p.on ss A B)).1.out.2 = _
      rw [ih.1, ih.2, h1.2, ← List.map_append]
      rfl
/-- What is to be told. -/
def caT (ss : List Int) (n : Nat) : List Cm := (List.range n).map fun k => ⟨9, ss.getD k 0, 0, 0, caL k⟩
def caW (ss : List Int) (n : Nat) : List ByteArray := (List.range n).map fun k => caB (ss.getD k 0) k
theorem uncod_cod {k : Nat} (h : k < 200) : uncod (cod k) = k := by
  show (UInt8.ofNat (k + 1)).toNat - 1 = k
  simp
  omega
theorem carried {ss : List Int} {A B : Tn} (hs : ∀ k, 0 ≤ ss.getD k 0 ∧ ss.getD k 0 < 65536) (hab : A.id = B.cid) (hba : B.id = A.cid) (hA : 0 ≤ A.cid ∧ A.cid < 65536) (hB : B.cid = 9) {n : Nat} (hn : n ≤ 8) :
    toldN 20 (liveW A (chn 2 1 (caW ss n) [] 3 0 false), liveW B (chn 1 2 [] [] 2 0 false)) = caT ss n := by
  have hc := List.all_eq_true.1 smChk_9 n (by simp; omega)
  have hc2 := smChk_all _ 20 (sm0 n) hc
  have hr := sm_rounds (ss := ss) (A := A) (B := B) hs hab hba hA (by omega) (p := sm0 n) rfl 20 hc2.2
  have e0 : (sm0 n).on ss A B = (liveW A (chn 2 1 (caW ss n) [] 3 0 false), liveW B (chn 1 2 [] [] 2 0 false)) := by
    have hw : ((List.range n).map cod).map (dec ss) = caW ss n := by
      rw [List.map_map]
      refine List.map_congr_left fun k hk => ?_
      have hk : k < n := by simpa using hk
      show dec ss (cod k) = _
      rw [dec, if_neg (show ¬ (cod k).size = 0 from by show ¬ 1 = 0; decide), uncod_cod (by omega)]
    show (liveW A ((sm0 n).a.mp (dec ss)), liveW B ((sm0 n).b.mp (dec ss))) = _
    rw [show (sm0 n).a.mp (dec ss) = chn 2 1 (((List.range n).map cod).map (dec ss)) [] 3 0 false from rfl, hw]
    rfl
  rw [e0, hc2.1, hB] at hr
  rw [hr.2, List.map_map]
  refine List.map_congr_left fun k hk => ?_
  have hk : k < n := by simpa using hk
  show tl ss 9 (cod k) = _
  rw [tl, uncod_cod (by omega)]
theorem toldN_pre (p : Tn × Tn) : ∀ (d n : Nat), toldN n p <+: toldN (n + d) p
  | 0, n => List.prefix_refl _
  | d + 1, n => (toldN_pre p d n).trans (List.prefix_append _ _)
/-- What an end has told amid a round is what it tells in all, cut short. -/
theorem told_amid (p : Tn × Tn) {r : Nat} (hr : r < 20) {k : Nat} :
    toldN r p ++ tell (meetN r p).2 ((meetN r p).1.out.2.take k) <+: toldN 20 p := by
  refine List.IsPrefix.trans ?_ (by have := toldN_pre p (20 - (r + 1)) (r + 1); rwa [show r + 1 + (20 - (r + 1)) = 20 by omega] at this)
  show _ <+: toldN r p ++ tell (meetN r p).2 (meetN r p).1.out.2
  refine (List.prefix_append_right_inj _).2 ?_
  have := tell_append ((meetN r p).1.out.2.take k) ((meetN r p).1.out.2.drop k) (meetN r p).2
  rw [List.take_append_drop] at this
  rw [this]
  exact List.prefix_append _ _
theorem told_at {ss : List Int} {n : Nat} {D : List Cm} {m : Cm} (h : D ++ [m] <+: caT ss n) : D.length < n ∧ m = ⟨9, ss.getD D.length 0, 0, 0, caL D.length⟩ := by
  obtain ⟨t, ht⟩ := h
  have h1 : (caT ss n)[D.length]? = some m := by rw [← ht]; simp
  have h2 : D.length < n := by
    have := (List.getElem?_eq_some_iff.1 h1).1
    simpa [caT] using this
  rw [caT, List.getElem?_map, List.getElem?_range h2] at h1
  injection h1 with h1
  exact ⟨h2, h1.symm⟩
/-! ### the sending -/
theorem caW_succ (ss : List Int) (n : Nat) : caW ss (n + 1) = caW ss n ++ [caB (ss.getD n 0) n] := by
  unfold caW
  rw [List.range_succ, List.map_append]
  rfl
theorem ca_send {ss : List Int} {A : Tn} {n : Nat} (hn : n < 8) (h : 0 ≤ ss.getD n 0 ∧ ss.getD n 0 ≤ 65535) :
    (liveW A (chn 2 1 (caW ss n) [] 3 0 false)).sendP (ss.getD n 0) (caL n) = (liveW A (chn 2 1 (caW ss (n + 1)) [] 3 0 false), 0) := by
  rw [Tn.sendP, if_neg (show ¬ (liveW A (chn 2 1 (caW ss n) [] 3 0 false)).state ≠ 3 from fun h => h rfl), if_neg (by omega), send_clear (caL_clear n)]
  have hl : (caW ss n).length = n := by simp [caW]
  have hz := bodyC_size (caL_clear n) (ss.getD n 0)
  have hc : (chn 2 1 (caW ss n) [] 3 0 false).send (bodyC (ss.getD n 0) (caL n)) = (chn 2 1 (caW ss (n + 1)) [] 3 0 false, 0) := by
    unfold C.send chn
    rw [if_neg (by simp), if_neg (by omega), if_neg (by dsimp only; rw [hl]; omega), caW_succ]
    rfl
  show (({ liveW A (chn 2 1 (caW ss n) [] 3 0 false) with way := ((chn 2 1 (caW ss n) [] 3 0 false).send (bodyC (ss.getD n 0) (caL n))).1 } : Tn), ((chn 2 1 (caW ss n) [] 3 0 false).send (bodyC (ss.getD n 0) (caL n))).2) = _
  rw [hc]
  rfl
theorem ca_not {s : Int} {A : Tn} {n : Nat} {q : C} (h : s < 0 ∨ 65535 < s) : (liveW A q).sendP s (caL n) = (liveW A q, 1) := by
  rw [Tn.sendP, if_neg (show ¬ (liveW A q).state ≠ 3 from fun h => h rfl), if_pos h]
end Go.Proofs.YtolfjfkkbhbbbaaGreat
