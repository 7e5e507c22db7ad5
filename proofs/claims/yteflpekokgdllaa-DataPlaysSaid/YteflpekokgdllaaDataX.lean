/- The walks of the document's own word, Low, Two, PutLoad (at numbers of two bytes), mod, Before. -/
import Derived.Test.YteflpekokgdllaaDataOr
namespace Go.Proofs.Yteflpekokgdllaa
open Go.RowKit
set_option linter.unusedSimpArgs false
set_option linter.unusedVariables false
set_option maxRecDepth 20000

theorem rword_ok (n : Int) (h : 0 ≤ n ∧ n < 65536) (w : World) : Calls Try.prog 52 #[.int .i64 n] w fun e w' => e = .returned (.bool true) ∧ w = w' := by
  obtain ⟨h1, h2⟩ := h
  have h3 : n ≤ 65535 := by omega
  go_enter Try.func52, Try.ntmps52
  go_wp2_with fail
  go_ret
  exact ⟨by simp [h1, h3], rfl⟩
set_option maxHeartbeats 1000000 in
theorem rlow2 (v : Int) (h : 0 ≤ v ∧ v < 65536) (w : World) : Calls Try.prog 62 #[.int .i64 v, .int .i64 2] w fun e w' => e = .returned (.string (be 2 v)) ∧ Upd [] w w' := by
  have info5 : (Try.prog.info? 5).map (fun i => (i.zero, i.size, i.bytes)) = some (some (.int .u8 0), 1, 1) := by kernel_rfl
  have hmk : ∀ W : World, (Instr.makeSlice 59 (.int .i64 2) (.int .i64 2)).run Try.prog W = .ok (.slice (some ⟨W.heap.size, 0, none⟩) 2 2) (W.alloc (.cells #[.int .u8 0, .int .u8 0] 5)) := fun W => by
    rw [show (#[Value.int .u8 0, Value.int .u8 0] : Array Value) = madeCells #[Value.int .u8 0] 2 from by kernel_rfl]
    exact run_make_row' (P := Try.prog) 59 5 (.int .u8 0) 1 Try.underlying59 info5 rfl .i64 .i64 2 (by omega) (by omega) W
  have B0 : Hid (Blk (w.alloc (.cells #[.int .u8 0, .int .u8 0] 5)) w.heap.size 5 #[.int .u8 0, .int .u8 0]) := Blk.new _ _ _
  have U0 : Hid (Upd [] w (w.alloc (.cells #[.int .u8 0, .int .u8 0] 5))) := (Upd.refl _ _).alloc _
  clear info5
  go_enter Try.func62, Try.ntmps62
  go_wp2_with fail
  go_loopg [0, 6] 2 (fun m s0 s6 wr => ∃ (x y a b : Int), s0 = .int .i64 x ∧ s6 = .int .i64 y ∧ Upd [] w wr ∧ Blk wr w.heap.size 5 #[.int .u8 a, .int .u8 b] ∧ ((m = 2 ∧ x = v ∧ y = 1) ∨ (m = 1 ∧ x = v / 256 ∧ y = 0 ∧ b = v % 256) ∨ (m = 0 ∧ y = -1 ∧ b = v % 256 ∧ a = v / 256 % 256)))
  case atStart => exact ⟨v, 1, 0, 0, rfl, rfl, U0.out, B0.out, .inl ⟨rfl, rfl, rfl⟩⟩
  case round =>
    obtain ⟨x, y, a, b, rfl, rfl, hu, hb, hc⟩ := hrel
    have HU := Lib.hid hu
    have HB := Lib.hid hb
    have c0 := hb.cell 0
    have c1 := hb.cell 1
    have f0 := hb.frozen 0
    have f1 := hb.frozen 1
    simp at c0 c1
    clear hu hb
    rcases hc with ⟨rfl, rfl, rfl⟩ | ⟨rfl, rfl, rfl, rfl⟩ | ⟨rfl, rfl, rfl, rfl⟩
    · go_wp2_with fail
      go_roundg 1
      case rel => exact ⟨x / 256, 0, a, x % 256, rfl, rfl, HU.out.setCell _ (.inr (Nat.le_refl _)), HB.out.set_ 1 _, .inr (.inl ⟨rfl, rfl, rfl, rfl⟩)⟩
      case measure => omega
    · go_wp2_with fail
      go_roundg 0
      case rel => exact ⟨v / 256 / 256, -1, v / 256, v % 256, rfl, rfl, HU.out.setCell _ (.inr (Nat.le_refl _)), HB.out.set_ 0 _, .inr (.inr ⟨rfl, rfl, rfl, by omega⟩)⟩
      case measure => omega
    · have hcv := str2 (P := Try.prog) (dst := 9) Try.underlying59 Try.underlying5 Try.underlying9 HB.out
      have hbe : strOfNums [v / 256 % 256, v % 256] = be 2 v := by
        have e1 : byteAt v 2 0 = v / 256 % 256 := rfl
        have e2 : byteAt v 2 1 = v % 256 := by simp [byteAt]
        have e3 : (List.range 2) = [0, 1] := rfl
        rw [be, e3, List.map_cons, List.map_cons, List.map_nil, e1, e2]
      rw [hbe] at hcv
      clear hbe
      go_wp2_with fail
      go_ret
      exact ⟨rfl, HU.out⟩
theorem rtwo (v : Int) (h : 0 ≤ v ∧ v < 65536) (w : World) : Calls Try.prog 53 #[.int .i64 v] w fun e w' => e = .returned (.string (be 2 v)) ∧ Upd [] w w' := by
  go_enter Try.func53, Try.ntmps53
  go_wp2_with fail
  refine (rlow2 v h _).mono ?_
  rintro e w1 ⟨rfl, hu⟩
  go_wp2_with fail
  go_ret
  exact ⟨rfl, hu⟩
theorem rmod (n : Int) (w : World) : Calls Try.prog 40 #[.int .i64 n] w fun e w' => e = .returned (.int .i64 (n % 65536)) ∧ w = w' := by
  have h1 : n.tmod 65536 = n % 65536 ∨ n.tmod 65536 = n % 65536 - 65536 := by
    rcases Int.le_total 0 n with h | h
    · left; exact Int.tmod_eq_emod_of_nonneg h
    · have := Int.tmod_eq_emod (a := n) (b := 65536)
      rw [this]
      split
      · left; omega
      · right; omega
  have h2 : 0 ≤ n % 65536 ∧ n % 65536 < 65536 := by omega
  obtain ⟨y, hy⟩ : ∃ y, y = n % 65536 := ⟨_, rfl⟩
  rw [← hy] at h1 h2 ⊢
  obtain ⟨x, hx⟩ : ∃ x, n.tmod 65536 = x := ⟨_, rfl⟩
  rw [hx] at h1
  by_cases t : x < 0
  · have e1 : x = y - 65536 := by omega
    have hwx : True → wrap64 (x + 65536) = y := fun _ => by rw [IntWalk.wrap64_in _ (by omega)]; omega
    clear hy
    go_enter Try.func40, Try.ntmps40
    go_wp2_with fail
    go_ret
    exact ⟨by first | rfl | (rw [hwx trivial]) | (congr 2; omega), rfl⟩
  · have e1 : x = y := by omega
    subst e1
    clear hy
    go_enter Try.func40, Try.ntmps40
    go_wp2_with fail
    go_ret
    exact ⟨rfl, rfl⟩
theorem rbef (a b : Int) (ha : 0 ≤ a ∧ a < 65536) (hb : 0 ≤ b ∧ b < 65536) (w : World) : Calls Try.prog 22 #[.int .i64 a, .int .i64 b] w fun e w' => e = .returned (.bool (bef a b)) ∧ w = w' := by
  have e1 : a % 65536 = a := by omega
  have e2 : b % 65536 = b := by omega
  have hw : True → wrap64 (b - a) = b - a := fun _ => IntWalk.wrap64_in _ (by omega)
  have HB : Hid (bef a b = (decide (1 ≤ (b - a) % 65536) && decide ((b - a) % 65536 ≤ 32767))) := by
    show _ = _
    rw [bef]
    congr 1
    exact decide_eq_decide.2 (by omega)
  rw [HB.out]
  go_enter Try.func22, Try.ntmps22
  go_wp2_with fail
  refine (rmod b _).mono ?_
  rintro e w1 ⟨rfl, rfl⟩
  rw [e2]
  go_wp2_with fail
  refine (rmod a _).mono ?_
  rintro e w1 ⟨rfl, rfl⟩
  rw [e1]
  go_wp2_with fail
  refine (rmod (b - a) _).mono ?_
  rintro e w1 ⟨rfl, rfl⟩
  obtain ⟨z, hz⟩ : ∃ z, z = (b - a) % 65536 := ⟨_, rfl⟩
  rw [← hz]
  have HZ := Lib.hid hz
  clear hz e1 e2
  by_cases t : 1 ≤ z
  · go_wp2_with fail
    go_ret
    rw [← HZ.out]
    exact ⟨by simp [t], rfl⟩
  · go_wp2_with fail
    go_ret
    rw [← HZ.out]
    exact ⟨by simp; omega, rfl⟩
end Go.Proofs.Yteflpekokgdllaa
