/- The walks of slices.Backward at values (Avp), of avp.vector: a range over a function. -/
import Derived.RangeFuncNested
import Derived.RangeFuncBound
import Derived.RangeFuncCalls
import Derived.RangeFuncLeaves
import Derived.Shelf.Abstract
import Derived.Shelf.RegionOpen
import Derived.OwnWalkIn
import Derived.TacticsInMore
import Derived.LoopNIn
import Derived.LoopIn
import Derived.Test.YtglafpdealjlnaaGreatProg
import Derived.Test.YtglafpdealjlnaaGreatQLib
namespace Go.Proofs.YtglafpdealjlnaaGreat
open Go.RowKit Go.Shelf
set_option maxRecDepth 100000
set_option linter.unusedSimpArgs false
set_option linter.unusedVariables false
attribute [local go_sem] Oper.semAt_some

theorem blk_own {β : Type} (B : Nat) (t : TypeId) (f : β → Array Value) : Go.Own (fun s W => Blk W B t (f s)) := fun s X Y row hs hg hrow =>
  (hg.block B hs.lt (fun e' => by obtain ⟨o, ho, hc⟩ := hrow B e'.symm; rw [show X.heap[B]? = _ from hs] at ho; cases ho; cases hc)).trans hs

set_option maxRecDepth 100000 in
set_option maxHeartbeats 2000000 in
theorem back1_in (F : Fence) (n : Nat) (h1 : F.fn 334) (hro : F.round = none) (hn : 1 ≤ n) (l Bs n₀ : Nat) (ao : Option Addr) (len cap : Nat) (zs : List Av) (hz : len = zs.length) (w0 : World) (hn₀ : w0.heap.size = n₀) (hBn : Bs < n₀) (hb : AvsAt w0 (.slice ao len cap) zs)
    (J Jx : List (Nat × Av) → World → Prop)
    (hY : ∀ pre x W, J pre W → pre.length < len → YieldAt F (n - 1) Tryz.prog l #[.int .i64 (x.1 : Int), x.2.agg] W fun e W' =>
      (e = .returned (.bool true) ∧ J (pre ++ [x]) W' ∧ Below n₀ W W') ∨ (e = .returned (.bool false) ∧ Jx (pre ++ [x]) W'))
    (W : World) (hBs : w0.cell? ⟨Bs, 0, none⟩ = some (.slice ao len cap)) (hW : Below n₀ w0 W) (h0 : J [] W) :
    CallsIn F n Tryz.prog 334 #[.func (.yield l) #[] #[], .pointer (some ⟨Bs, 0, none⟩)] W fun e W' => (∃ v, e = .returned v) ∧
      ((∃ ys : List (Nat × Av), ys.map Prod.snd = zs.reverse ∧ J ys W') ∨ (∃ pre : List (Nat × Av), pre.map Prod.snd <+: zs.reverse ∧ Jx pre W')) := by
  have hlm : len ≤ 9223372036854775807 := by
    obtain ⟨ao', cap', e0, hlen, hmax, _⟩ := id hb
    simp only [maxLen] at hmax
    omega
  have hBw0 : W.cell? ⟨Bs, 0, none⟩ = some (.slice ao len cap) := (hW.cell (p := ⟨Bs, 0, none⟩) hBn).trans hBs
  refine callsIn_of_wp Tryz.func334 rfl h1 ?_ hro
  simp only [Tryz.ntmps334, List.size_toArray, List.length_cons, List.length_nil, Nat.reduceAdd, Nat.reduceSub, Array.replicate_succ, Array.replicate_zero, List.push_toArray, List.append_toArray, List.nil_append, List.cons_append]
  gi_wp2
  gi_loopw [3] (fun i wr => ∃ m : Nat, m ≤ len ∧ i = .int .i64 ((m : Int) - 1) ∧ ∃ pre : List (Nat × Av), pre.map Prod.snd = zs.reverse.take (len - m) ∧ pre.length = len - m ∧ J pre wr ∧ Below n₀ w0 wr)
    (fun i _ => (intOf i + 1).toNat)
  case atStart => exact ⟨len, Nat.le_refl _, by go_num, [], by simp, by simp, h0, hW⟩
  case round =>
    obtain ⟨m, hm, rfl, pre, hp, hpl, hJs, hnx⟩ := hrel
    have hBw : wr.cell? ⟨Bs, 0, none⟩ = some (.slice ao len cap) := (hnx.cell (p := ⟨Bs, 0, none⟩) hBn).trans hBs
    cases m with
    | zero =>
      have hp' : pre.map Prod.snd = zs.reverse := by rw [hp]; exact List.take_of_length_le (by simp [hz])
      clear hp
      have hpe : ((0 : Nat) : Int) - 1 = -1 := rfl
      rw [hpe]
      gi_wp2
      go_end0
      exact ⟨⟨_, rfl⟩, .inl ⟨_, hp', hJs⟩⟩
    | succ m =>
      obtain ⟨x, hx⟩ : ∃ x, zs[m]? = some x := ⟨_, List.getElem?_eq_getElem (by omega)⟩
      have hpx : (pre ++ [(m, x)]).map Prod.snd = zs.reverse.take (len - m) := by
        rw [List.map_append, hp, show len - m = (len - (m + 1)) + 1 by omega, List.take_add_one]
        congr 1
        rw [List.getElem?_reverse (by omega)]
        rw [show zs.length - 1 - (len - (m + 1)) = m by omega, hx]
        rfl
      obtain ⟨ao', cap', e0, _, _, h3⟩ := hb.upd (Upd.of_below (hn₀ ▸ hnx) : Upd [] w0 wr)
      injection e0 with e0 _ e2
      subst e0 e2
      obtain ⟨q, rfl, c0, c1, c2, c3, c4⟩ := h3 m x hx
      clear h3
      obtain ⟨fn, tmps, assign, body, hy, hR⟩ := hY pre (m, x) wr hJs (by omega)
      dsimp only [Av.agg] at hy
      have hpe : ((m + 1 : Nat) : Int) - 1 = (m : Int) := by omega
      rw [hpe]
      clear hp hpe
      gi_wp2
      refine hR.mono ?_
      rintro e W3 (⟨rfl, hJ3, hk3⟩ | ⟨rfl, hJx3⟩)
      · gi_wp2
        go_roundw
        case rel => exact ⟨m, by omega, by go_num, _, hpx, by simp; omega, hJ3, hnx.trans hk3⟩
        case measure => simp [intOf]
      · gi_wp2
        refine bodyPost_ret (results_none rfl _ _ _) rfl ?_
        exact ⟨⟨_, rfl⟩, .inr ⟨_, hpx ▸ List.take_prefix _ _, hJx3⟩⟩

set_option maxHeartbeats 1000000 in
theorem back_in (F : Fence) (n : Nat) (h5 : F.fn 324) (hro : F.round = none) (a : Option Addr) (len cap : Nat) (w : World) :
    CallsIn F n Tryz.prog 324 #[.slice a len cap] w fun e w' => e = .returned (.func (.func 334) #[] #[.pointer (some ⟨w.heap.size, 0, none⟩)]) ∧ w' = w.alloc (.cells #[.slice a len cap] 22) := by
  refine callsIn_of_wp Tryz.func324 rfl h5 ?_ hro
  simp only [Tryz.ntmps324, List.size_toArray, List.length_cons, List.length_nil, Nat.reduceAdd, Nat.reduceSub, Array.replicate_succ, Array.replicate_zero, List.push_toArray, List.append_toArray, List.nil_append, List.cons_append]
  gi_wp2
  go_ret
  exact ⟨rfl, rfl⟩

theorem back_stops (F : Fence) (n : Nat) (h1 : F.fn 334) (hro : F.round = none) (hn : 1 ≤ n) (Bs : Nat) (ao : Option Addr) (len cap : Nat) (zs : List Av) (hz : len = zs.length) (w : World) (hBs : Bs < w.heap.size)
    (hc : w.cell? ⟨Bs, 0, none⟩ = some (.slice ao len cap)) (hb : AvsAt w (.slice ao len cap) zs) :
    SeqStopsK F n Tryz.prog 334 #[.pointer (some ⟨Bs, 0, none⟩)] (fun x : Nat × Av => #[Value.int .i64 (x.1 : Int), x.2.agg]) (Below w.heap.size) (fun ys => ys.map Prod.snd = zs.reverse) (fun pre => pre.map Prod.snd <+: zs.reverse) len w := fun l J Jx W hW _ _ hY h0 =>
  back1_in F n h1 hro hn l Bs w.heap.size ao len cap zs hz w rfl hBs hb J Jx hY W hc hW h0

def isVec (a : Av) : Bool := a.vendor == 0 && a.kind == 36 && !a.hidden
/-- The last vector that stands in the open. -/
def vec (l : List Av) : ByteArray × Bool := match l.reverse.find? isVec with
  | some a => (a.val, true)
  | none => (⟨#[]⟩, false)
theorem vec_snoc (l : List Av) (a : Av) : vec (l ++ [a]) = if isVec a = true then (a.val, true) else vec l := by
  unfold vec
  rw [List.reverse_append, List.reverse_singleton, List.singleton_append, List.find?_cons]
  cases isVec a <;> rfl

set_option maxRecDepth 100000 in
set_option maxHeartbeats 4000000 in
theorem vector_in (F : Fence) (n : Nat) (h3 : F.fn 302) (h4 : F.fn 324) (h5 : F.fn 334) (hro : F.round = none) (hn : 3 ≤ n) (ao : Option Addr) (len cap : Nat) (zs : List Av) (hz : len = zs.length) (w : World) (hb : AvsAt w (.slice ao len cap) zs) :
    CallsIn F n Tryz.prog 302 #[.slice ao len cap] w fun e W' => e = .returned (.tuple #[.string (vec zs).1, .bool (vec zs).2]) ∧ Below w.heap.size w W' := by
  have h1 : 1 ≤ n := by omega
  have HZ := Lib.hid hz
  clear hz
  refine callsIn_of_wp_marks Tryz.func302 rfl h3 ?_ hro
  simp only [Tryz.ntmps302, List.size_toArray, List.length_cons, List.length_nil, Nat.reduceAdd, Nat.reduceSub, Array.replicate_succ, Array.replicate_zero, List.push_toArray, List.append_toArray, List.nil_append, List.cons_append]
  gi_wp2_with (gi_at_call 324; refine (back_in F (n - 1) h4 hro _ _ _ _).mono ?_; rintro e w' ⟨rfl, rfl⟩)
  have bS := ((Boxed.new w 9 (.string ⟨#[]⟩)).alloc (.cells #[.bool false] 4)).alloc (.cells #[.slice ao len cap] 22)
  have bB := (Boxed.new (w.alloc (.cells #[.string ⟨#[]⟩] 9)) 4 (.bool false)).alloc (.cells #[.slice ao len cap] 22)
  have bA := Boxed.new ((w.alloc (.cells #[.string ⟨#[]⟩] 9)).alloc (.cells #[.bool false] 4)) 22 (.slice ao len cap)
  simp only [World.size_alloc] at bB bA
  have hB0 : Below w.heap.size w (((w.alloc (.cells #[.string ⟨#[]⟩] 9)).alloc (.cells #[.bool false] 4)).alloc (.cells #[.slice ao len cap] 22)) := (((Below.refl _ w).alloc (Nat.le_refl _) _).alloc (by simp) _).alloc (by simp; omega) _
  have hsz : (((w.alloc (.cells #[.string ⟨#[]⟩] 9)).alloc (.cells #[.bool false] 4)).alloc (.cells #[.slice ao len cap] 22)).heap.size = w.heap.size + 3 := by simp
  obtain ⟨W0, hW0⟩ : ∃ W0, ((w.alloc (.cells #[.string ⟨#[]⟩] 9)).alloc (.cells #[.bool false] 4)).alloc (.cells #[.slice ao len cap] 22) = W0 := ⟨_, rfl⟩
  rw [hW0] at bB bS bA hB0 hsz ⊢
  clear hW0
  refine wpIn_rangeFunc_ownH hro h1 (gf := 334) (lb := #[.pointer (some ⟨w.heap.size + 1 + 1, 0, none⟩)]) rfl h5 (enters_of Tryz.func334 (by kernel_rfl) rfl)
    (back_stops F (n - 1) h5 hro (by omega) (w.heap.size + 1 + 1) ao len cap zs HZ.out W0 (by omega) bA.cell (hb.upd (Upd.of_below hB0))) belowK_t (belowK_b (by omega)) (Below.refl _ _) (fun _ => rfl)
    (fun pre W => ((∀ p ∈ pre, isVec p.2 = false) ∧ Boxed W w.heap.size 9 (.string ⟨#[]⟩) ∧ Boxed W (w.heap.size + 1) 4 (.bool false)) ∧ Below w.heap.size W0 W)
    (fun c pre W => ((c = .ret ∧ ∃ ini last, pre = ini ++ [last] ∧ (∀ p ∈ ini, isVec p.2 = false) ∧ isVec last.2 = true ∧ Boxed W w.heap.size 9 (.string last.2.val)) ∧ Boxed W (w.heap.size + 1) 4 (.bool true)) ∧ Below w.heap.size W0 W)
    (OwnFrom.and (OwnFrom.and (ownFrom_pure _ _) (OwnFrom.and (Own.from (boxed_own _ _ _) _) (Own.from (boxed_own _ _ _) _))) (ownFrom_below (by omega) (by omega)))
    (fun c => OwnFrom.and (OwnFrom.and (Own.from (fun s A B row hs hg hr => by obtain ⟨hc, ini, last, e1, e2, e3, e4⟩ := hs; exact ⟨hc, ini, last, e1, e2, e3, boxed_own _ _ (fun (_ : Unit) => Value.string last.2.val) () A B row e4 hg hr⟩) _) (Own.from (boxed_own _ _ _) _)) (ownFrom_below (by omega) (by omega)))
    ⟨⟨by simp, bS, bB⟩, Below.refl _ _⟩
    (fun x a' W => ∃ Bx, w.heap.size + 2 < Bx ∧ Blk W Bx 85 #[.bool x.2.must, .bool x.2.hidden, .int .i64 x.2.vendor, .int .i64 x.2.kind, .string x.2.val] ∧ a' = { tmps := #[.slice ao len cap, undef, .pointer (some ⟨w.heap.size, 0, none⟩), .pointer (some ⟨w.heap.size + 1, 0, none⟩), undef, .pointer (some ⟨Bx, 0, none⟩), .slice ao len cap, .func (.func 334) #[] #[.pointer (some ⟨w.heap.size + 1 + 1, 0, none⟩)], .int .i64 (x.1 : Int), x.2.agg, undef, undef, undef, undef, undef, undef, undef, undef, undef, undef, undef, undef, undef, undef, undef], defers := [] })
    (fun x a' _ X Y row hs hg hr => by obtain ⟨Bx, h1, h2, h3⟩ := hs; exact ⟨Bx, h1, blk_own Bx 85 (fun (_ : Unit) => _) () X Y row h2 hg (fun r e => (hr r e).2), h3⟩)
    ?assign ?body ?done ?stop
  case assign =>
    rintro l pre x W K ⟨⟨hp, bS1, bB1⟩, hB1⟩ hK
    have hsW := hB1.size
    simp only [Av.agg] at hK ⊢
    gi_wp2
    exact hK _ _ ((KeepsOthers.alloc _ _).from _) ((Below.refl _ W).alloc hsW _) ⟨⟨hp, bS1.alloc _, bB1.alloc _⟩, hB1.alloc (by omega) _⟩ ⟨W.heap.size, by omega, Blk.new W _ _, rfl⟩
  case body =>
    rintro l pre x a' W hl ⟨r, hr⟩ ⟨⟨hp, bS1, bB1⟩, hB1⟩ ⟨Bx, hBx, bX, rfl⟩ hlt
    have c1 := bX.cell 1
    have c2 := bX.cell 2
    have c3 := bX.cell 3
    have c4 := bX.cell 4
    have s0 := bS1.cell
    have s1 := bB1.cell
    have f0 := bS1.frozen
    have f1 := bB1.frozen
    have hno : isVec x.2 = false → ∀ p ∈ pre ++ [x], isVec p.2 = false := fun h p hp' => (List.mem_append.1 hp').elim (hp p) (fun e => by simp at e; subst e; exact h)
    have HNO := Lib.hid hno
    have HSZ := Lib.hid hsz
    have HBX := Lib.hid hBx
    have hsW := hB1.size
    have HSW := Lib.hid hsW
    clear hno hsz hBx hsW
    by_cases hv : x.2.vendor = 0
    · by_cases hk : x.2.kind = 36
      · cases hh : x.2.hidden
        · have hyes : Hid (isVec x.2 = true) := by show _ = _; simp [isVec, hv, hk, hh]
          rw [hv] at c2
          rw [hk] at c3
          rw [hh] at c1
          clear hv hk hh
          gi_wp2
          have U1 : Below W0.heap.size W W := Below.refl _ _
          refine ⟨((KeepsOthers.setCell _ _ _).trans (KeepsOthers.setCell _ _ _)).from _, ⟨⟨rfl, pre, x, rfl, hp, hyes.out, (bS1.set _).other (by omega) _⟩, (bB1.other (by omega) _).set _⟩, ?_⟩
          exact (hB1.setCell (p := ⟨w.heap.size, 0, none⟩) (Nat.le_refl _) _).setCell (p := ⟨w.heap.size + 1, 0, none⟩) (by simp) _
        · have hyes : Hid (isVec x.2 = false) := by show _ = _; simp [isVec, hh]
          rw [hv] at c2
          rw [hk] at c3
          rw [hh] at c1
          clear hv hk hh
          gi_wp2
          exact ⟨KeepsFrom.refl _ _, Below.refl _ _, ⟨HNO.out hyes.out, bS1, bB1⟩, hB1⟩
      · have hyes : Hid (isVec x.2 = false) := by show _ = _; simp [isVec, hk]
        rw [hv] at c2
        clear hv
        gi_wp2
        exact ⟨KeepsFrom.refl _ _, Below.refl _ _, ⟨HNO.out hyes.out, bS1, bB1⟩, hB1⟩
    · have hyes : Hid (isVec x.2 = false) := by show _ = _; simp [isVec, hv]
      gi_wp2
      exact ⟨KeepsFrom.refl _ _, Below.refl _ _, ⟨HNO.out hyes.out, bS1, bB1⟩, hB1⟩
  case done =>
    rintro D ys W hD hS ⟨⟨hp, bS1, bB1⟩, hB1⟩ hK
    have s0 := bS1.cell
    have s1 := bB1.cell
    have f0 := bS1.frozen
    have f1 := bB1.frozen
    have HV : Hid (vec zs = (⟨#[]⟩, false)) := by
      show _ = _
      rw [vec, ← hS, List.find?_map, show ys.find? (isVec ∘ Prod.snd) = none from List.find?_eq_none.2 (fun p hp' => by simpa using hp p hp')]
      rfl
    clear hp hS
    gi_wp2
    have hK' := ((KeepsOthers.setCell W ⟨w.heap.size, 0, none⟩ (.string ⟨#[]⟩)).trans (KeepsOthers.setCell _ ⟨w.heap.size + 1, 0, none⟩ (.bool false))).same D _ hK rfl
    refine ⟨by simp, .inl ⟨_, _, rfl, run_takeDeferred hK', ?_⟩⟩
    have hc5 := cell_kept (((bS1.set (.string ⟨#[]⟩)).other (B' := w.heap.size + 1) (by omega) (.bool false)).cell) (grownBy_putObj' _ D (.deferred none)) (fun r e => by cases e; exact ⟨_, hK', rfl⟩)
    have hc6 := cell_kept (((bB1.other (B' := w.heap.size) (by omega) (.string ⟨#[]⟩)).set (.bool false)).cell) (grownBy_putObj' _ D (.deferred none)) (fun r e => by cases e; exact ⟨_, hK', rfl⟩)
    refine ⟨.tuple #[.string ⟨#[]⟩, .bool false], ?_, by rw [HV.out], (hB0.trans ((hB1.setCell (p := ⟨w.heap.size, 0, none⟩) (Nat.le_refl _) _).setCell (p := ⟨w.heap.size + 1, 0, none⟩) (by simp) _)).trans (belowK_b (w := w) (Nat.le_refl _) _ D _ _ (by omega) hK' rfl rfl)⟩
    simp [results, Tryz.f302, go_sem, hc5, hc6]
  case stop =>
    rintro D c pre W hD hS ⟨⟨⟨rfl, ini, last, e1, e2, e3, bS1⟩, bB1⟩, hB1⟩ hK
    have s0 := bS1.cell
    have s1 := bB1.cell
    have HV : Hid (vec zs = (last.2.val, true)) := by
      show _ = _
      obtain ⟨r, hr⟩ := hS
      rw [vec, ← hr, e1, List.map_append, List.append_assoc, List.find?_append, List.find?_map, show ini.find? (isVec ∘ Prod.snd) = none from List.find?_eq_none.2 (fun p hp' => by simpa using e2 p hp')]
      simp [e3]
    clear hS e1 e2 e3
    gi_wp2
    refine ⟨by simp, .inl ⟨_, _, rfl, run_takeDeferred hK, ?_⟩⟩
    have hc5 := cell_kept bS1.cell (grownBy_putObj' _ D (.deferred none)) (fun r e => by cases e; exact ⟨_, hK, rfl⟩)
    have hc6 := cell_kept bB1.cell (grownBy_putObj' _ D (.deferred none)) (fun r e => by cases e; exact ⟨_, hK, rfl⟩)
    refine ⟨.tuple #[.string last.2.val, .bool true], ?_, by rw [HV.out], (hB0.trans hB1).trans (belowK_b (w := w) (Nat.le_refl _) _ D _ _ (by omega) hK rfl rfl)⟩
    simp [results, Tryz.f302, go_sem, hc5, hc6]

theorem vector_any (l : List Av) (v : Value) (w : World) (hl : AvsAt w v l) :
    Calls Tryz.prog 302 #[v] w fun e w' => e = .returned (.tuple #[.string (vec l).1, .bool (vec l).2]) ∧ Upd [] w w' := by
  obtain ⟨ao, cap, rfl, _⟩ := id hl
  refine callsIn_wide.1 ((vector_in Fence.wide 3 trivial trivial trivial rfl (Nat.le_refl _) ao l.length cap l rfl w hl).mono ?_)
  rintro e w' ⟨rfl, hu⟩
  exact ⟨rfl, Upd.of_below hu⟩
end Go.Proofs.YtglafpdealjlnaaGreat
