/- The walk of chapter 21's TunnelNone. -/
import Derived.Test.YtolfjfkkbhbbbaaGreatQTunLA
import Derived.Test.YtolfjfkkbhbbbaaGreatQTunNil
import Derived.Test.YtolfjfkkbhbbbaaGreatQWeigh
namespace Go.Proofs.YtolfjfkkbhbbbaaGreat
open Go.RowKit
set_option linter.unusedSimpArgs false
set_option linter.unusedVariables false
set_option maxRecDepth 100000

set_option maxHeartbeats 2000000 in
theorem tunnelNone_any (s : ByteArray) (l : List Av) (v : Value) (w : World) (hl : AvsAt w v l) (hs : ∀ t ∈ l, t.val.size ≤ 140737488355328) :
    Calls Tryz.prog 9 #[.string s, v] w (AliveEnd w) := by
  have HAL := Lib.hid alive21_any
  have HL := Lib.hid (lightA_any l v w hl hs)
  have HLS := Lib.hid (And.intro hl hs)
  obtain ⟨ao, cap, rfl, -, -, -⟩ := hl
  obtain ⟨ln, hln⟩ : ∃ ln, l.length = ln := ⟨_, rfl⟩
  rw [hln] at HL
  rw [hln]
  clear hs hln
  by_cases hz : s.size ≤ 2000
  case neg =>
    go_enter Tryz.func9, Tryz.ntmps9
    go_wp2_with fail
    refine (HAL.out _).mono ?_
    rintro e w1 ⟨rfl, u1⟩
    go_wp2_with fail
    go_ret
    exact ⟨rfl, u1⟩
  generalize LightA l = li at *
  cases li
  case false =>
    go_enter Tryz.func9, Tryz.ntmps9
    go_wp2_with fail
    refine HL.out.mono ?_
    rintro e w1 ⟨rfl, u1⟩
    go_wp2_with fail
    refine (HAL.out _).mono ?_
    rintro e w2 ⟨rfl, u2⟩
    go_wp2_with fail
    go_ret
    exact ⟨rfl, u1.trans u2⟩
  go_enter Tryz.func9, Tryz.ntmps9
  go_wp2_with fail
  refine HL.out.mono ?_
  rintro e w1 ⟨rfl, u1⟩
  have HU1 := Lib.hid u1
  clear u1
  go_wp2_with fail
  obtain ⟨cs, hcs⟩ : ∃ cs : Array Value, #[.string ⟨#[]⟩, .string ⟨#[]⟩, .int .i64 0, .int .i64 0, .int .i64 0, .int .i64 0, .int .i64 0, .int .i64 0, .pointer none, .pointer none, .int .i64 0, .int .i64 0, .string ⟨#[]⟩, .int .u64 0, .string ⟨#[]⟩, .string ⟨#[]⟩, .bool false, .int .i64 0, .int .i64 0, .bool false] = cs := ⟨_, rfl⟩
  have H9 : Hid (cs[9]? = some (.pointer none)) := by show _ = _; rw [← hcs]; rfl
  rw [hcs]
  obtain ⟨w2, hw2⟩ : ∃ w2, w1.alloc (Obj.cells cs 70) = w2 := ⟨_, rfl⟩
  have HB : Hid (Blk w2 w1.heap.size 70 cs) := by show Blk _ _ _ _; rw [← hw2]; exact Blk.new _ _ _
  have HU2 : Hid (Upd [] w w2) := by show Upd _ _ _; rw [← hw2]; exact HU1.out.alloc _
  obtain ⟨g, hg⟩ : ∃ g, w1.heap.size = g := ⟨_, rfl⟩
  rw [hg] at HB
  rw [hw2, hg]
  clear hw2 hg hcs
  refine (nilClose_any _).mono ?_
  rintro e w3 ⟨rfl, u3⟩
  have HU3 := Lib.hid (HU2.out.trans u3)
  have HB := Lib.hid (HB.out.upd u3 (by simp))
  clear u3
  go_wp2_with fail
  refine (zeroClose_any _ HB.out H9.out).mono ?_
  rintro e w4 ⟨rfl, u4⟩
  have HU4 := Lib.hid (HU3.out.trans u4)
  have HB := Lib.hid (HB.out.upd u4 (by simp))
  clear u4
  go_wp2_with fail
  refine (nilTick_any _).mono ?_
  rintro e w5 ⟨rfl, u5⟩
  have HU5 := Lib.hid (HU4.out.trans u5)
  have HB := Lib.hid (HB.out.upd u5 (by simp))
  clear u5
  go_wp2_with fail
  refine (zeroTick_any _ HB.out H9.out).mono ?_
  rintro e w6 ⟨rfl, u6⟩
  have HU6 := Lib.hid (HU5.out.trans u6)
  have HB := Lib.hid (HB.out.upd u6 (by simp))
  clear u6
  go_wp2_with fail
  refine (nilIds_any _).mono ?_
  rintro e w7 ⟨rfl, u7⟩
  have HU7 := Lib.hid (HU6.out.trans u7)
  have HB := Lib.hid (HB.out.upd u7 (by simp))
  clear u7
  go_wp2_with fail
  refine (HAL.out _).mono ?_
  rintro e w8 ⟨rfl, u8⟩
  have HU8 := Lib.hid (HU7.out.trans u8)
  have HB := Lib.hid (HB.out.upd u8 (by simp))
  clear u8
  go_wp2_with fail
  refine (nilState_any _).mono ?_
  rintro e w9 ⟨rfl, u9⟩
  have HU9 := Lib.hid (HU8.out.trans u9)
  have HB := Lib.hid (HB.out.upd u9 (by simp))
  clear u9
  go_wp2_with fail
  refine (zeroState_any _ HB.out H9.out).mono ?_
  rintro e w10 ⟨rfl, u10⟩
  have HU10 := Lib.hid (HU9.out.trans u10)
  have HB := Lib.hid (HB.out.upd u10 (by simp))
  clear u10
  go_wp2_with fail
  refine (nilOpen_any _).mono ?_
  rintro e w11 ⟨rfl, u11⟩
  have HU11 := Lib.hid (HU10.out.trans u11)
  have HB := Lib.hid (HB.out.upd u11 (by simp))
  clear u11
  go_wp2_with fail
  refine (zeroOpen_any _ HB.out H9.out).mono ?_
  rintro e w12 ⟨rfl, u12⟩
  have HU12 := Lib.hid (HU11.out.trans u12)
  have HB := Lib.hid (HB.out.upd u12 (by simp))
  clear u12
  go_wp2_with fail
  refine (nilSend_any 1 ao ln cap _).mono ?_
  rintro e w13 ⟨rfl, u13⟩
  have HU13 := Lib.hid (HU12.out.trans u13)
  have HB := Lib.hid (HB.out.upd u13 (by simp))
  clear u13
  go_wp2_with fail
  refine (zeroSend_any 1 ao ln cap _ HB.out H9.out).mono ?_
  rintro e w14 ⟨rfl, u14⟩
  have HU14 := Lib.hid (HU13.out.trans u14)
  have HB := Lib.hid (HB.out.upd u14 (by simp))
  clear u14
  go_wp2_with fail
  refine (nilTake_any s _).mono ?_
  rintro e w15 ⟨rfl, u15⟩
  have HU15 := Lib.hid (HU14.out.trans u15)
  have HB := Lib.hid (HB.out.upd u15 (by simp))
  clear u15
  go_wp2_with fail
  refine (zeroTake_any s _ HB.out H9.out).mono ?_
  rintro e w16 ⟨rfl, u16⟩
  have HU16 := Lib.hid (HU15.out.trans u16)
  have HB := Lib.hid (HB.out.upd u16 (by simp))
  clear u16
  go_wp2_with fail
  refine (nilOut_any _).mono ?_
  rintro e w17 ⟨rfl, u17⟩
  have HU17 := Lib.hid (HU16.out.trans u17)
  have HB := Lib.hid (HB.out.upd u17 (by simp))
  clear u17
  go_wp2_with fail
  refine (zeroOut_any _ HB.out H9.out).mono ?_
  rintro e w18 ⟨rfl, u18⟩
  have HU18 := Lib.hid (HU17.out.trans u18)
  have HB := Lib.hid (HB.out.upd u18 (by simp))
  clear u18
  go_wp2_with fail
  refine (nilRoom_any _).mono ?_
  rintro e w19 ⟨rfl, u19⟩
  have HU19 := Lib.hid (HU18.out.trans u19)
  have HB := Lib.hid (HB.out.upd u19 (by simp))
  clear u19
  go_wp2_with fail
  refine (nilPeer_any _).mono ?_
  rintro e w20 ⟨rfl, u20⟩
  have HU20 := Lib.hid (HU19.out.trans u20)
  have HB := Lib.hid (HB.out.upd u20 (by simp))
  clear u20
  go_wp2_with fail
  go_ret
  exact ⟨rfl, HU20.out⟩
theorem tunnelNone_walk {H : Type} {enc : TypeId × Value → H} {v1 : Value} {d0 d1 : DataW H} {p1 : List MemPlace} {W : World} {base : Nat} (s : ByteArray) {P : Prop} (_ : P)
    (h1 : DataW.Trod enc Tryz.prog W 0 (fun _ => true) true 53 v1 d1 p1) (o1 : Value.okWide Tryz.prog W .any base 53 v1)
    (sz : (DataW.weightsEach Tryz.prog [9, 53] [d0, d1]).all (· ≤ reachBytes) = true) :
    Calls Tryz.prog 9 #[.string s, v1] W fun e w' => e = .returned (.bool true) ∧ Below W.heap.size W w' := by
  obtain ⟨l, hl, hls⟩ := avs_in h1 o1 (wt_each sz (j := 1) rfl rfl)
  exact (tunnelNone_any s l v1 W hl hls).mono fun e w' ⟨he, hu⟩ => ⟨he, hu.below⟩
end Go.Proofs.YtolfjfkkbhbbbaaGreat
