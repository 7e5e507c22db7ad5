/- The walks of a way's Put and Get. -/
import Derived.Test.YteflpekokgdllaaDataB
namespace Go.Proofs.Yteflpekokgdllaa
open Go.RowKit
set_option linter.unusedSimpArgs false
set_option linter.unusedVariables false
set_option maxRecDepth 20000

theorem WyAt.cells {w : World} {b : Nat} {x : Wy} (h : WyAt w b x) : w.cell? ⟨b, 0, none⟩ = some (.int .i64 x.tunnel) ∧ w.cell? ⟨b, 1, none⟩ = some (.int .i64 x.session) ∧ w.cell? ⟨b, 2, none⟩ = some (.bool x.seq) ∧ w.cell? ⟨b, 3, none⟩ = some (.int .u16 x.next) ∧ w.cell? ⟨b, 4, none⟩ = some (.int .i64 x.last) ∧ w.cell? ⟨b, 5, none⟩ = some (.bool x.came) :=
  ⟨Blk.cell h 0, Blk.cell h 1, Blk.cell h 2, Blk.cell h 3, Blk.cell h 4, Blk.cell h 5⟩
theorem wrap_next (n : Int) (h : 0 ≤ n ∧ n < 65536) : IntKind.u16.wrap (n + 1) = (n + 1) % 65536 := by
  simp [IntKind.wrap, IntKind.bits, IntKind.signed]

set_option maxHeartbeats 2000000 in
theorem wayPut_any (b : Nat) (x : Wy) (d : ByteArray) (w : World) (h : WyAt w b x) (hx : x.ok) (hd : d.size ≤ maxLen) :
    Calls Try.prog 15 #[.pointer (some ⟨b, 0, none⟩), .string d] w fun e w' => e = .returned (.tuple #[.string (x.lay d).2.1, .int .i64 (x.lay d).2.2]) ∧ WyAt w' b (x.lay d).1 ∧ Upd [b] w w' := by
  have ht : x.tunnel ≠ 0 := by have := hx.tunnel; omega
  have HX := Lib.hid hx
  have H := Lib.hid h
  have hlt := Blk.lt h
  have HD := Lib.hid hd
  obtain ⟨g0, g1, g2, g3, g4, g5⟩ := h.cells
  clear hd hx h
  cases hq : x.seq with
  | true =>
    have HQ := Lib.hid hq
    rw [hq] at g2
    have hagg : ∀ W, Calls Try.prog 35 #[.agg #[.int .i64 x.tunnel, .int .i64 x.session, .bool true, .int .i64 x.next, .int .i64 0, .string d]] W fun e w' => e = .returned (.tuple #[.string (x.lay d).2.1, .int .i64 (x.lay d).2.2]) ∧ Upd [] W w' := by
      have hl : (x.load d).agg = .agg #[.int .i64 x.tunnel, .int .i64 x.session, .bool true, .int .i64 x.next, .int .i64 0, .string d] := by simp [Wy.load, Ld.agg, hq]
      rw [← hl]
      exact putLoad_way x d HX.out HD.out
    clear hq
    have hwn : True → wrap64 x.next = x.next := fun _ => IntWalk.wrap64_in _ (by have := HX.out.next; omega)
    by_cases t1 : 1460 < d.size
    · have e1 : x.lay d = (x, ⟨#[]⟩, 2) := if_pos t1
      rw [e1] at hagg ⊢
      have HAGG := Lib.hid hagg
      clear hagg e1
      go_enter Try.func15, Try.ntmps15
      go_wp2_with fail
      refine (way_none b x _ H.out ht).mono ?_
      rintro e w1 ⟨rfl, rfl⟩
      go_wp2_with fail
      go_region
      go_wp2_with fail
      refine (HAGG.out _).mono ?_
      rintro e w2 ⟨rfl, hu2⟩
      have HU2 : Hid (Upd [] w w2) := (((Upd.refl [] w).alloc _).drewN 1).trans hu2
      clear hu2
      clear g0 g1 g2 g3 g4 g5
      go_wp2_with fail
      go_ret2
      exact ⟨rfl, Blk.upd H.out HU2.out (by simp), HU2.out.more⟩
    · have e1 : x.lay d = ({ x with next := (x.next + 1) % 65536, put := up1 x.put }, (x.load d).bytes, 0) := if_neg t1
      rw [e1] at hagg ⊢
      generalize (x.load d).bytes = bs at *
      have HAGG := Lib.hid hagg
      clear hagg e1
      go_enter Try.func15, Try.ntmps15
      go_wp2_with fail
      refine (way_none b x _ H.out ht).mono ?_
      rintro e w1 ⟨rfl, rfl⟩
      go_wp2_with fail
      go_region
      go_wp2_with fail
      refine (HAGG.out _).mono ?_
      rintro e w2 ⟨rfl, hu2⟩
      have HU2 : Hid (Upd [] w w2) := (((Upd.refl [] w).alloc _).drewN 1).trans hu2
      clear hu2
      have HB2 : Hid (WyAt w2 b x) := Blk.upd H.out HU2.out (by simp)
      obtain ⟨g0, g1, g2, g3, g4, g5⟩ := HB2.out.cells
      have hf := Blk.frozen HB2.out 3
      have hwr := wrap_next x.next HX.out.next
      go_wp2_with fail
      refine (one_any b 6 _ _ x.put _ (Blk.set_ 3 _ HB2.out) rfl HX.out.put).mono ?_
      rintro e w3 ⟨rfl, hb3, hu3⟩
      go_wp2_with fail
      go_ret2
      exact ⟨rfl, hb3, ((HU2.out.more).setCell _ (by simp)).trans hu3⟩
  | false =>
    have HQ := Lib.hid hq
    rw [hq] at g2
    have hagg : ∀ W, Calls Try.prog 35 #[.agg #[.int .i64 x.tunnel, .int .i64 x.session, .bool false, .int .i64 0, .int .i64 0, .string d]] W fun e w' => e = .returned (.tuple #[.string (x.lay d).2.1, .int .i64 (x.lay d).2.2]) ∧ Upd [] W w' := by
      have hl : (x.load d).agg = .agg #[.int .i64 x.tunnel, .int .i64 x.session, .bool false, .int .i64 0, .int .i64 0, .string d] := by simp [Wy.load, Ld.agg, hq]
      rw [← hl]
      exact putLoad_way x d HX.out HD.out
    clear hq
    by_cases t1 : 1460 < d.size
    · have e1 : x.lay d = (x, ⟨#[]⟩, 2) := if_pos t1
      rw [e1] at hagg ⊢
      have HAGG := Lib.hid hagg
      clear hagg e1
      go_enter Try.func15, Try.ntmps15
      go_wp2_with fail
      refine (way_none b x _ H.out ht).mono ?_
      rintro e w1 ⟨rfl, rfl⟩
      go_wp2_with fail
      go_region
      go_wp2_with fail
      refine (HAGG.out _).mono ?_
      rintro e w2 ⟨rfl, hu2⟩
      have HU2 : Hid (Upd [] w w2) := (((Upd.refl [] w).alloc _).drewN 1).trans hu2
      clear hu2
      clear g0 g1 g2 g3 g4 g5
      go_wp2_with fail
      go_ret2
      exact ⟨rfl, Blk.upd H.out HU2.out (by simp), HU2.out.more⟩
    · have e1 : x.lay d = ({ x with next := (x.next + 1) % 65536, put := up1 x.put }, (x.load d).bytes, 0) := if_neg t1
      rw [e1] at hagg ⊢
      generalize (x.load d).bytes = bs at *
      have HAGG := Lib.hid hagg
      clear hagg e1
      go_enter Try.func15, Try.ntmps15
      go_wp2_with fail
      refine (way_none b x _ H.out ht).mono ?_
      rintro e w1 ⟨rfl, rfl⟩
      go_wp2_with fail
      go_region
      go_wp2_with fail
      refine (HAGG.out _).mono ?_
      rintro e w2 ⟨rfl, hu2⟩
      have HU2 : Hid (Upd [] w w2) := (((Upd.refl [] w).alloc _).drewN 1).trans hu2
      clear hu2
      have HB2 : Hid (WyAt w2 b x) := Blk.upd H.out HU2.out (by simp)
      obtain ⟨g0, g1, g2, g3, g4, g5⟩ := HB2.out.cells
      have hf := Blk.frozen HB2.out 3
      have hwr := wrap_next x.next HX.out.next
      go_wp2_with fail
      refine (one_any b 6 _ _ x.put _ (Blk.set_ 3 _ HB2.out) rfl HX.out.put).mono ?_
      rintro e w3 ⟨rfl, hb3, hu3⟩
      go_wp2_with fail
      go_ret2
      exact ⟨rfl, hb3, ((HU2.out.more).setCell _ (by simp)).trans hu3⟩
end Go.Proofs.Yteflpekokgdllaa
