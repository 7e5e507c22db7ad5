/- The walk of the document's own way's Get. -/
import Derived.Test.YteflpekokgdllaaDataZ
namespace Go.Proofs.Yteflpekokgdllaa
open Go.RowKit
set_option linter.unusedSimpArgs false
set_option linter.unusedVariables false
set_option maxRecDepth 20000

theorem tmod_word (n : Int) : (0 ≤ n.tmod 65536 ∧ n.tmod 65536 = n % 65536) ∨ (n.tmod 65536 < 0 ∧ n.tmod 65536 + 65536 = n % 65536 ∧ -65536 < n.tmod 65536) := by
  rcases Int.le_total 0 n with h | h
  · left
    rw [Int.tmod_eq_emod_of_nonneg h]
    omega
  · have := Int.tmod_eq_emod (a := n) (b := 65536)
    rw [this]
    split
    · left; omega
    · right; omega

set_option maxHeartbeats 8000000 in
theorem rGet_any (b : Nat) (x : Wy) (l : Ld) (w : World) (h : RwAt w b x) (hx : x.ok) (hc : x.taken ≤ 1000 ∧ x.missed ≤ 1000) :
    Calls Try.prog 18 #[.pointer (some ⟨b, 0, none⟩), l.agg] w fun e w' => e = .returned (.tuple #[.string (x.get l).2.1, .bool (x.get l).2.2]) ∧ RwAt w' b (x.get l).1 ∧ Upd [b] w w' := by
  have HX := Lib.hid hx
  have hlt := Blk.lt h
  obtain ⟨ltu, lse, lsq, lns, lnr, ldat⟩ := l
  have A0 : Blk (w.alloc (.cells #[.int .i64 ltu, .int .i64 lse, .bool lsq, .int .i64 lns, .int .i64 lnr, .string ldat] 45)) w.heap.size 45 #[.int .i64 ltu, .int .i64 lse, .bool lsq, .int .i64 lns, .int .i64 lnr, .string ldat] := Blk.new _ _ _
  have U0 : Hid (Upd [] w (w.alloc (.cells #[.int .i64 ltu, .int .i64 lse, .bool lsq, .int .i64 lns, .int .i64 lnr, .string ldat] 45))) := (Upd.refl [] w).alloc _
  have HB : Hid (RwAt (w.alloc (.cells #[.int .i64 ltu, .int .i64 lse, .bool lsq, .int .i64 lns, .int .i64 lnr, .string ldat] 45)) b x) := Blk.upd h U0.out (by simp)
  have H := Lib.hid h
  obtain ⟨g0, g1, g2, g3, g4, g5⟩ := h.cells
  have g7 := Blk.cell h 7
  have g8 := Blk.cell h 8
  have f4 := Blk.frozen h 4
  have f5 := Blk.frozen h 5
  have f7 := Blk.frozen h 7
  have f8 := Blk.frozen h 8
  simp [Wy.rcells] at g7 g8
  have hwt : True → wrap64 (x.taken + 1) = up1 x.taken := fun _ => by rw [IntWalk.wrap64_in _ (by have := HX.out.taken; omega)]; unfold up1; have := HX.out.taken; omega
  have hwm : True → wrap64 (x.missed + 1) = up1 x.missed := fun _ => by rw [IntWalk.wrap64_in _ (by have := HX.out.missed; omega)]; unfold up1; have := HX.out.missed; omega
  have hzz := tmod_word lns
  obtain ⟨z, hz⟩ : ∃ z, lns.tmod 65536 = z := ⟨_, rfl⟩
  obtain ⟨y, hy⟩ : ∃ y, y = lns % 65536 := ⟨_, rfl⟩
  have hyb : 0 ≤ y ∧ y < 65536 := by omega
  rw [hz, ← hy] at hzz
  clear hx h A0 hc
  by_cases t1 : x.seq = true ∧ lsq = true
  · obtain ⟨tq, rfl⟩ := t1
    rw [tq] at g2
    by_cases t2 : x.late ⟨ltu, lse, true, lns, lnr, ldat⟩ = true
    · have e1 : x.get ⟨ltu, lse, true, lns, lnr, ldat⟩ = ({ x with missed := up1 x.missed }, ⟨#[]⟩, false) := by rw [Wy.get, if_pos ⟨tq, rfl⟩, if_pos t2]
      rw [e1]
      simp only [Wy.late, Bool.and_eq_true, Bool.or_eq_true, decide_eq_true_eq] at t2
      obtain ⟨tc, t2⟩ := t2
      rw [tc] at g5
      rw [← hy] at t2
      clear e1 hy tc tq
      have HE : Hid (Blk (w.setCell ⟨b, 8, none⟩ (.int .i64 (up1 x.missed))) b 55 ({ x with missed := up1 x.missed } : Wy).rcells) := Blk.set_ 8 _ H.out
      by_cases t3 : y = x.last
      focus
        have t3' : (y == x.last) = true := by simpa using t3
        have HT3 := Lib.hid t3
        clear t3 t2
      rotate_left
      focus
        have t2' : bef y x.last = true := by
          rcases t2 with t2 | t2
          · exact absurd t2 t3
          · exact t2
        have t3' : (y == x.last) = false := by simpa using t3
        have HT3 := Lib.hid t2'
        clear t3 t2 t2'
      all_goals
        rcases hzz with ⟨hz0, rfl⟩ | ⟨hz0, hz1, hz2⟩
        focus
          have hz0' : ¬ z < 0 := by omega
          have HXL := Lib.hid HX.out.last
          go_enter Try.func18, Try.ntmps18
          simp only [Ld.agg]
          go_wp2_with (go_at_call 22; refine (rbef _ _ hyb HXL.out _).mono ?_; rintro e w' ⟨rfl, rfl⟩; rw [HT3.out])
        rotate_left
        focus
          have hw6 : True → wrap64 (z + 65536) = y := fun _ => by rw [IntWalk.wrap64_in _ (by omega)]; exact hz1
          have HXL := Lib.hid HX.out.last
          go_enter Try.func18, Try.ntmps18
          simp only [Ld.agg]
          go_wp2_with (go_at_call 22; refine (rbef _ _ hyb HXL.out _).mono ?_; rintro e w' ⟨rfl, rfl⟩; rw [HT3.out])
        all_goals
          go_ret2
          exact ⟨rfl, Blk.alloc _ HE.out, ((Upd.refl [b] w).setCell _ (by simp)).alloc _⟩
    · have e1 : x.get ⟨ltu, lse, true, lns, lnr, ldat⟩ = ({ x with last := y, came := true, taken := up1 x.taken }, ldat, true) := by rw [Wy.get, if_pos ⟨tq, rfl⟩, if_neg t2, hy]
      rw [e1]
      simp only [Wy.late, Bool.and_eq_true, Bool.or_eq_true, decide_eq_true_eq] at t2
      rw [← hy] at t2
      clear e1 hy tq
      have HE : Hid (Blk (((w.setCell ⟨b, 5, none⟩ (.bool true)).setCell ⟨b, 4, none⟩ (.int .i64 y)).setCell ⟨b, 7, none⟩ (.int .i64 (up1 x.taken))) b 55 ({ x with last := y, came := true, taken := up1 x.taken } : Wy).rcells) := ((Blk.set_ 5 _ H.out).set_ 4 _).set_ 7 _
      by_cases tc : x.came = true
      focus
        rw [tc] at g5
        have t3' : (y == x.last) = false := by simpa using fun e => t2 ⟨tc, .inl e⟩
        have t4' : bef y x.last = false := by simpa using fun e => t2 ⟨tc, .inr e⟩
        have HT4 := Lib.hid t4'
        clear t2 t4' tc
      rotate_left
      focus
        have tc' : x.came = false := by simpa using tc
        rw [tc'] at g5
        have HT4 : Hid (bef y x.last = bef y x.last) := rfl
        clear t2 tc tc'
      all_goals
        rcases hzz with ⟨hz0, rfl⟩ | ⟨hz0, hz1, hz2⟩
        focus
          have hz0' : ¬ z < 0 := by omega
          have HXL := Lib.hid HX.out.last
          go_enter Try.func18, Try.ntmps18
          simp only [Ld.agg]
          go_wp2_with (go_at_call 22; refine (rbef _ _ hyb HXL.out _).mono ?_; rintro e w' ⟨rfl, rfl⟩; rw [HT4.out])
        rotate_left
        focus
          have hw6 : True → wrap64 (z + 65536) = y := fun _ => by rw [IntWalk.wrap64_in _ (by omega)]; exact hz1
          have HXL := Lib.hid HX.out.last
          go_enter Try.func18, Try.ntmps18
          simp only [Ld.agg]
          go_wp2_with (go_at_call 22; refine (rbef _ _ hyb HXL.out _).mono ?_; rintro e w' ⟨rfl, rfl⟩; rw [HT4.out])
        all_goals
          go_ret2
          exact ⟨rfl, Blk.alloc _ HE.out, ((((Upd.refl [b] w).setCell _ (by simp)).setCell _ (by simp)).setCell _ (by simp)).alloc _⟩
  · have e1 : x.get ⟨ltu, lse, lsq, lns, lnr, ldat⟩ = ({ x with taken := up1 x.taken }, ldat, true) := by rw [Wy.get, if_neg t1]
    rw [e1]
    have HE : Hid (Blk (w.setCell ⟨b, 7, none⟩ (.int .i64 (up1 x.taken))) b 55 ({ x with taken := up1 x.taken } : Wy).rcells) := Blk.set_ 7 _ H.out
    clear e1 hy
    by_cases tq : x.seq = true
    focus
      have tl : lsq = false := by simpa using fun e => t1 ⟨tq, e⟩
      subst tl
      rw [tq] at g2
      clear t1 tq
    rotate_left
    focus
      have tq' : x.seq = false := by simpa using tq
      rw [tq'] at g2
      clear t1 tq tq'
    all_goals
      go_enter Try.func18, Try.ntmps18
      simp only [Ld.agg]
      go_wp2_with fail
      go_ret2
      exact ⟨rfl, Blk.alloc _ HE.out, ((Upd.refl [b] w).setCell _ (by simp)).alloc _⟩
end Go.Proofs.Yteflpekokgdllaa
