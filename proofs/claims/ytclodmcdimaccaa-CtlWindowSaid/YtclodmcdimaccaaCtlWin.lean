/- The walk of CtlWindow. -/
import Derived.Test.YtclodmcdimaccaaCtlV
import Derived.Test.YtclodmcdimaccaaCtlWinP
import Derived.Test.YtclodmcdimaccaaNum
import Derived.Test.YtclodmcdimaccaaOpen
namespace Go.Proofs.Ytclodmcdimaccaa
open Go.RowKit

theorem cell_lt {w : World} {a : Addr} {v : Value} (h : w.cell? a = some v) : a.block < w.heap.size := by
  unfold World.cell? at h
  by_cases hl : a.block < w.heap.size
  · exact hl
  · rw [Array.getElem?_eq_none (by omega)] at h
    simp at h

/-- What the walk reads of the slice of operations. -/
def OpsIn (w : World) (a : Option Addr) (n : Nat) : Prop := ∀ i, i < n → ∃ q k m, a = some q ∧ w.cell? (q.add (i * 5)) = some (.int .i64 k) ∧ w.cell? ⟨(q.add (i * 5)).block, (q.add (i * 5)).off + 1, none⟩ = some (.int .i64 m)
theorem OpsIn.upd {w w' : World} {a : Option Addr} {n : Nat} (h : OpsIn w a n) (hu : Upd [] w w') : OpsIn w' a n := fun i hi => by
  obtain ⟨q, k, m, rfl, h1, h2⟩ := h i hi
  exact ⟨q, k, m, rfl, (hu.cell (cell_lt h1) (by simp)).trans h1, (hu.cell (cell_lt h2) (by simp)).trans h2⟩

set_option maxRecDepth 100000 in
set_option maxHeartbeats 4000000 in
theorem ctlWindow_run (window first : Int) (a : Option Addr) (n cap : Nat) (w : World) (hl : OpsIn w a n) (hn : n ≤ maxLen) :
    Calls Try.prog 6 #[.int .i64 window, .int .i64 first, .slice a n cap] w fun e w' => e = .returned (.bool true) ∧ Upd [] w w' := by
  by_cases hok : NewOk window 40 10 5 first
  rotate_left
  · go_enter Try.func6, Try.ntmps6
    go_wp2_with fail
    refine (new_bad _ _ _ _ _ hok w).mono ?_
    rintro e w1 ⟨rfl, rfl⟩
    go_wp2_with fail
    refine (alive_any _).mono ?_
    rintro e w' ⟨rfl, hu⟩
    go_wp2
    go_ret
    exact ⟨rfl, hu⟩
  by_cases hn2 : 200 < n
  · have HOK := Lib.hid hok
    clear hok
    go_enter Try.func6, Try.ntmps6
    go_wp2_with fail
    refine (new_at HOK.out w).mono ?_
    rintro e w1 ⟨rfl, h1, u1, z1⟩
    go_wp2_with fail
    refine (alive_any _).mono ?_
    rintro e w' ⟨rfl, hu⟩
    go_wp2
    go_ret
    exact ⟨rfl, u1.trans hu⟩
  have b1 := hok.w1
  have b2 := hok.w2
  have HOK := Lib.hid hok
  have HL := Lib.hid hl
  clear hok hl
  go_enter Try.func6, Try.ntmps6
  go_wp2_with fail
  refine (new_at HOK.out w).mono ?_
  rintro e w1 ⟨rfl, h1, u1, z1⟩
  have ST : Hid (∃ c own, CtlAt w1 w.heap.size c own ∧ New w own ∧ Upd [] w w1 ∧ c.Win window 0) := ⟨_, _, h1, fun k hk => by simp at hk; omega, u1, rfl, by simp [C.new]; omega, by simp [C.new]⟩
  clear h1 u1
  go_wp2
  go_loopg [9, 10] n (fun m s9 s10 wr => ∃ k : Nat, k + m = n ∧ s10 = .int .i64 k ∧ ∃ g : Int, s9 = .int .i64 g ∧ 0 ≤ g ∧ g ≤ k ∧
    ∃ c own, CtlAt wr w.heap.size c own ∧ New w own ∧ Upd [] w wr ∧ c.Win window g)
  case atStart => exact ⟨0, by omega, rfl, 0, rfl, by omega, by omega, ST.out⟩
  case round =>
    obtain ⟨k, hk, rfl, g, rfl, g1, g2, c, own, hc, hnw, hu, hw⟩ := hrel
    by_cases tk : k < n
    · obtain ⟨q, K, N, rfl, hK, hN⟩ := HL.out.upd hu k tk
      have HC := Lib.hid (And.intro hc (And.intro hnw (And.intro hu hw)))
      clear hc hnw hu hw ST
      have L5 : ((c.waits.length : Int) + c.flies.length ≤ g) ∧ g ≤ 200 := ⟨HC.out.2.2.2.all, by omega⟩
      by_cases t1 : K = 1
      · subst t1
        go_wp2_with fail
        refine (send_at HC.out.1 ⟨#[109]⟩).mono ?_
        rintro e w2 ⟨rfl, ⟨o2, h2, g2⟩, u2⟩
        have hw2 := HC.out.2.2.2.send ⟨#[109]⟩
        have n2 := HC.out.2.1.grew g2 HC.out.2.2.1.size
        have v2 := HC.out.2.2.1.new u2 HC.out.2.1
        by_cases ts : (c.send ⟨#[109]⟩).2 = 0
        · rw [if_pos ts] at hw2
          rw [ts]
          have HR := Lib.hid (And.intro h2 (And.intro n2 (And.intro v2 hw2)))
          clear h2 n2 v2 hw2 u2 g2 ts
          have b3 := HR.out.2.2.2.fly
          have b4 := HR.out.2.2.2.all
          have b5 := HR.out.1.ok.r1
          have b6 := HR.out.1.ok.r2
          rw [HR.out.2.2.2.win] at b6
          go_wp2_with fail
          refine (flying_at HR.out.1).mono ?_
          rintro e w' ⟨rfl, rfl⟩
          go_wp2_with fail
          refine (room_at HR.out.1).mono ?_
          rintro e w' ⟨rfl, rfl⟩
          go_wp2_with fail
          refine (room_at HR.out.1).mono ?_
          rintro e w' ⟨rfl, rfl⟩
          go_wp2_with fail
          refine (waiting_at HR.out.1).mono ?_
          rintro e w' ⟨rfl, rfl⟩
          go_wp2_with fail
          refine (flying_at HR.out.1).mono ?_
          rintro e w' ⟨rfl, rfl⟩
          go_wp2
          go_roundg (n - (k + 1))
          case rel => exact ⟨k + 1, by omega, by go_num, g + 1, by go_num, by omega, by omega, _, _, HR.out⟩
          case measure => omega
        · rw [if_neg ts] at hw2
          have HR := Lib.hid (And.intro h2 (And.intro n2 (And.intro v2 hw2)))
          clear h2 n2 v2 hw2 u2 g2
          have b3 := HR.out.2.2.2.fly
          have b4 := HR.out.2.2.2.all
          have b5 := HR.out.1.ok.r1
          have b6 := HR.out.1.ok.r2
          rw [HR.out.2.2.2.win] at b6
          go_wp2_with fail
          refine (flying_at HR.out.1).mono ?_
          rintro e w' ⟨rfl, rfl⟩
          go_wp2_with fail
          refine (room_at HR.out.1).mono ?_
          rintro e w' ⟨rfl, rfl⟩
          go_wp2_with fail
          refine (room_at HR.out.1).mono ?_
          rintro e w' ⟨rfl, rfl⟩
          go_wp2_with fail
          refine (waiting_at HR.out.1).mono ?_
          rintro e w' ⟨rfl, rfl⟩
          go_wp2_with fail
          refine (flying_at HR.out.1).mono ?_
          rintro e w' ⟨rfl, rfl⟩
          go_wp2
          go_roundg (n - (k + 1))
          case rel => exact ⟨k + 1, by omega, by go_num, g, by go_num, by omega, by omega, _, _, HR.out⟩
          case measure => omega
      by_cases t2 : K = 2
      · subst t2
        go_wp2_with fail
        refine (next_at HC.out.1).mono ?_
        rintro e w2 ⟨rfl, u2⟩
        have c2 := HC.out.1.keep u2
        have v2 := HC.out.2.2.1.trans u2
        obtain ⟨q2, K2, N2, hq, hK2, hN2⟩ := HL.out.upd v2 k tk
        obtain rfl : q = q2 := by simpa using hq
        clear hK hN
        go_wp2_with fail
        refine (take_at c2 _ _ ⟨#[]⟩ (by simp [ByteArray.size])).mono ?_
        rintro e w5 ⟨⟨v5, p5, rfl, q5, r5⟩, h5, u5⟩
        obtain ⟨nr2, hnr⟩ : ∃ x, x = bits BinOp.and IntKind.i64 (wrap64 (c.sent - bits BinOp.and IntKind.i64 N2 3)) 65535 := ⟨_, rfl⟩
        have hw5 := HC.out.2.2.2.take 0 nr2 ⟨#[]⟩
        rw [hnr] at hw5
        have HR := Lib.hid (And.intro h5 (And.intro HC.out.2.1 (And.intro (v2.new u5 HC.out.2.1) hw5)))
        clear hw5 hnr
        obtain ⟨ao, cap5, rfl, _, _⟩ := q5.shape
        clear q5 r5 h5 u5 v2 c2 u2 hK2 hN2
        have b3 := HR.out.2.2.2.fly
        have b4 := HR.out.2.2.2.all
        have b5 := HR.out.1.ok.r1
        have b6 := HR.out.1.ok.r2
        rw [HR.out.2.2.2.win] at b6
        go_wp2_with fail
        refine (flying_at HR.out.1).mono ?_
        rintro e w' ⟨rfl, rfl⟩
        go_wp2_with fail
        refine (room_at HR.out.1).mono ?_
        rintro e w' ⟨rfl, rfl⟩
        go_wp2_with fail
        refine (room_at HR.out.1).mono ?_
        rintro e w' ⟨rfl, rfl⟩
        go_wp2_with fail
        refine (waiting_at HR.out.1).mono ?_
        rintro e w' ⟨rfl, rfl⟩
        go_wp2_with fail
        refine (flying_at HR.out.1).mono ?_
        rintro e w' ⟨rfl, rfl⟩
        go_wp2
        go_roundg (n - (k + 1))
        case rel => exact ⟨k + 1, by omega, by go_num, g, by go_num, by omega, by omega, _, _, HR.out⟩
        case measure => omega
      · go_wp2_with fail
        refine (out_at HC.out.1).mono ?_
        rintro e w3 ⟨⟨v3, p3, rfl, q3, r3⟩, ⟨o3, h3, g3⟩, u3⟩
        have HR := Lib.hid (And.intro h3 (And.intro (HC.out.2.1.grew g3 HC.out.2.2.1.size) (And.intro (HC.out.2.2.1.new u3 HC.out.2.1) HC.out.2.2.2.out)))
        obtain ⟨ao, cap5, rfl, _, _⟩ := q3.shape
        clear q3 r3 h3 g3 u3
        have b3 := HR.out.2.2.2.fly
        have b4 := HR.out.2.2.2.all
        have b5 := HR.out.1.ok.r1
        have b6 := HR.out.1.ok.r2
        rw [HR.out.2.2.2.win] at b6
        go_wp2_with fail
        refine (flying_at HR.out.1).mono ?_
        rintro e w' ⟨rfl, rfl⟩
        go_wp2_with fail
        refine (room_at HR.out.1).mono ?_
        rintro e w' ⟨rfl, rfl⟩
        go_wp2_with fail
        refine (room_at HR.out.1).mono ?_
        rintro e w' ⟨rfl, rfl⟩
        go_wp2_with fail
        refine (waiting_at HR.out.1).mono ?_
        rintro e w' ⟨rfl, rfl⟩
        go_wp2_with fail
        refine (flying_at HR.out.1).mono ?_
        rintro e w' ⟨rfl, rfl⟩
        go_wp2
        go_roundg (n - (k + 1))
        case rel => exact ⟨k + 1, by omega, by go_num, g, by go_num, by omega, by omega, _, _, HR.out⟩
        case measure => omega
    · obtain rfl : k = n := by omega
      go_wp2_with fail
      refine (alive_any _).mono ?_
      rintro e w6 ⟨rfl, hu6⟩
      have HU := Lib.hid (hu.trans hu6)
      clear hc hnw hu hw hu6
      go_wp2
      go_ret
      exact ⟨rfl, HU.out⟩
end Go.Proofs.Ytclodmcdimaccaa
