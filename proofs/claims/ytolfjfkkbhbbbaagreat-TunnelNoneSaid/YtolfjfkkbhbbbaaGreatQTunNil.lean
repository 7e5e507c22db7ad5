/- The walks of a tunnel's methods at a nil and at a zero end. -/
import Derived.Test.YtolfjfkkbhbbbaaGreatQTunC
namespace Go.Proofs.YtolfjfkkbhbbbaaGreat
open Go.RowKit
set_option linter.unusedSimpArgs false
set_option linter.unusedVariables false
set_option maxRecDepth 100000

structure NilCloseEnd (w : World) (e : Ending) (w' : World) : Prop where
  e : e = .returned (.tuple #[])
  u : Upd [] w w'

set_option maxHeartbeats 1000000 in
theorem nilClose_any (w : World) : Calls Tryz.prog 30 #[.pointer none] w (NilCloseEnd w) := by
  have HN := Lib.hid (tnone_nil w)
  go_enter Tryz.func30, Tryz.ntmps30
  go_wp2_with fail
  refine HN.out.mono ?_
  rintro e w' ⟨rfl, rfl⟩
  go_wp2_with fail
  exact bodyPost_ret (results_none rfl _ _ _) rfl ⟨rfl, Upd.refl _ _⟩
set_option maxHeartbeats 1000000 in
theorem zeroClose_any (w : World) {b : Nat} {cs : Array Value} (hb : Blk w b 70 cs) (h9 : cs[9]? = some (.pointer none)) : Calls Tryz.prog 30 #[.pointer (some ⟨b, 0, none⟩)] w (NilCloseEnd w) := by
  have HN := Lib.hid (tnone_zero b cs w hb h9)
  go_enter Tryz.func30, Tryz.ntmps30
  go_wp2_with fail
  refine HN.out.mono ?_
  rintro e w' ⟨rfl, rfl⟩
  go_wp2_with fail
  exact bodyPost_ret (results_none rfl _ _ _) rfl ⟨rfl, Upd.refl _ _⟩
structure NilTickEnd (w : World) (e : Ending) (w' : World) : Prop where
  e : e = .returned (.tuple #[])
  u : Upd [] w w'

set_option maxHeartbeats 1000000 in
theorem nilTick_any (w : World) : Calls Tryz.prog 28 #[.pointer none] w (NilTickEnd w) := by
  have HN := Lib.hid (tnone_nil w)
  go_enter Tryz.func28, Tryz.ntmps28
  go_wp2_with fail
  refine HN.out.mono ?_
  rintro e w' ⟨rfl, rfl⟩
  go_wp2_with fail
  exact bodyPost_ret (results_none rfl _ _ _) rfl ⟨rfl, Upd.refl _ _⟩
set_option maxHeartbeats 1000000 in
theorem zeroTick_any (w : World) {b : Nat} {cs : Array Value} (hb : Blk w b 70 cs) (h9 : cs[9]? = some (.pointer none)) : Calls Tryz.prog 28 #[.pointer (some ⟨b, 0, none⟩)] w (NilTickEnd w) := by
  have HN := Lib.hid (tnone_zero b cs w hb h9)
  go_enter Tryz.func28, Tryz.ntmps28
  go_wp2_with fail
  refine HN.out.mono ?_
  rintro e w' ⟨rfl, rfl⟩
  go_wp2_with fail
  exact bodyPost_ret (results_none rfl _ _ _) rfl ⟨rfl, Upd.refl _ _⟩
structure NilIdsEnd (w : World) (e : Ending) (w' : World) : Prop where
  e : e = .returned (.tuple #[.int .i64 0, .int .i64 0])
  u : Upd [] w w'

set_option maxHeartbeats 1000000 in
theorem nilIds_any (w : World) : Calls Tryz.prog 23 #[.pointer none] w (NilIdsEnd w) := by
  have HN := Lib.hid (tnone_nil w)
  go_enter Tryz.func23, Tryz.ntmps23
  go_wp2_with fail
  refine HN.out.mono ?_
  rintro e w' ⟨rfl, rfl⟩
  go_wp2_with fail
  go_ret2
  exact ⟨rfl, Upd.refl _ _⟩
set_option maxHeartbeats 1000000 in
theorem zeroIds_any (w : World) {b : Nat} {cs : Array Value} (hb : Blk w b 70 cs) (h9 : cs[9]? = some (.pointer none)) : Calls Tryz.prog 23 #[.pointer (some ⟨b, 0, none⟩)] w (NilIdsEnd w) := by
  have HN := Lib.hid (tnone_zero b cs w hb h9)
  go_enter Tryz.func23, Tryz.ntmps23
  go_wp2_with fail
  refine HN.out.mono ?_
  rintro e w' ⟨rfl, rfl⟩
  go_wp2_with fail
  go_ret2
  exact ⟨rfl, Upd.refl _ _⟩
structure NilStateEnd (w : World) (e : Ending) (w' : World) : Prop where
  e : e = .returned (.int .i64 4)
  u : Upd [] w w'

set_option maxHeartbeats 1000000 in
theorem nilState_any (w : World) : Calls Tryz.prog 14 #[.pointer none] w (NilStateEnd w) := by
  have HN := Lib.hid (tnone_nil w)
  go_enter Tryz.func14, Tryz.ntmps14
  go_wp2_with fail
  refine HN.out.mono ?_
  rintro e w' ⟨rfl, rfl⟩
  go_wp2_with fail
  go_ret
  exact ⟨rfl, Upd.refl _ _⟩
set_option maxHeartbeats 1000000 in
theorem zeroState_any (w : World) {b : Nat} {cs : Array Value} (hb : Blk w b 70 cs) (h9 : cs[9]? = some (.pointer none)) : Calls Tryz.prog 14 #[.pointer (some ⟨b, 0, none⟩)] w (NilStateEnd w) := by
  have HN := Lib.hid (tnone_zero b cs w hb h9)
  go_enter Tryz.func14, Tryz.ntmps14
  go_wp2_with fail
  refine HN.out.mono ?_
  rintro e w' ⟨rfl, rfl⟩
  go_wp2_with fail
  go_ret
  exact ⟨rfl, Upd.refl _ _⟩
structure NilOpenEnd (w : World) (e : Ending) (w' : World) : Prop where
  e : e = .returned (.int .i64 20)
  u : Upd [] w w'

set_option maxHeartbeats 1000000 in
theorem nilOpen_any (w : World) : Calls Tryz.prog 12 #[.pointer none] w (NilOpenEnd w) := by
  have HN := Lib.hid (tnone_nil w)
  go_enter Tryz.func12, Tryz.ntmps12
  go_wp2_with fail
  refine HN.out.mono ?_
  rintro e w' ⟨rfl, rfl⟩
  go_wp2_with fail
  go_ret
  exact ⟨rfl, Upd.refl _ _⟩
set_option maxHeartbeats 1000000 in
theorem zeroOpen_any (w : World) {b : Nat} {cs : Array Value} (hb : Blk w b 70 cs) (h9 : cs[9]? = some (.pointer none)) : Calls Tryz.prog 12 #[.pointer (some ⟨b, 0, none⟩)] w (NilOpenEnd w) := by
  have HN := Lib.hid (tnone_zero b cs w hb h9)
  go_enter Tryz.func12, Tryz.ntmps12
  go_wp2_with fail
  refine HN.out.mono ?_
  rintro e w' ⟨rfl, rfl⟩
  go_wp2_with fail
  go_ret
  exact ⟨rfl, Upd.refl _ _⟩
structure NilSendEnd (w : World) (e : Ending) (w' : World) : Prop where
  e : e = .returned (.int .i64 20)
  u : Upd [] w w'

set_option maxHeartbeats 1000000 in
theorem nilSend_any (s : Int) (ao : Option Addr) (n cap : Nat) (w : World) : Calls Tryz.prog 24 #[.pointer none, .int .i64 s, .slice ao n cap] w (NilSendEnd w) := by
  have HN := Lib.hid (tnone_nil w)
  go_enter Tryz.func24, Tryz.ntmps24
  go_wp2_with fail
  refine HN.out.mono ?_
  rintro e w' ⟨rfl, rfl⟩
  go_wp2_with fail
  go_ret
  exact ⟨rfl, Upd.refl _ _⟩
set_option maxHeartbeats 1000000 in
theorem zeroSend_any (s : Int) (ao : Option Addr) (n cap : Nat) (w : World) {b : Nat} {cs : Array Value} (hb : Blk w b 70 cs) (h9 : cs[9]? = some (.pointer none)) : Calls Tryz.prog 24 #[.pointer (some ⟨b, 0, none⟩), .int .i64 s, .slice ao n cap] w (NilSendEnd w) := by
  have HN := Lib.hid (tnone_zero b cs w hb h9)
  go_enter Tryz.func24, Tryz.ntmps24
  go_wp2_with fail
  refine HN.out.mono ?_
  rintro e w' ⟨rfl, rfl⟩
  go_wp2_with fail
  go_ret
  exact ⟨rfl, Upd.refl _ _⟩
structure NilTakeEnd (w : World) (e : Ending) (w' : World) : Prop where
  e : e = .returned (.slice none 0 0)
  u : Upd [] w w'

set_option maxHeartbeats 1000000 in
theorem nilTake_any (x : ByteArray) (w : World) : Calls Tryz.prog 21 #[.pointer none, .string x] w (NilTakeEnd w) := by
  have HN := Lib.hid (tnone_nil w)
  go_enter Tryz.func21, Tryz.ntmps21
  go_wp2_with fail
  refine HN.out.mono ?_
  rintro e w' ⟨rfl, rfl⟩
  go_wp2_with fail
  go_ret
  exact ⟨rfl, Upd.refl _ _⟩
set_option maxHeartbeats 1000000 in
theorem zeroTake_any (x : ByteArray) (w : World) {b : Nat} {cs : Array Value} (hb : Blk w b 70 cs) (h9 : cs[9]? = some (.pointer none)) : Calls Tryz.prog 21 #[.pointer (some ⟨b, 0, none⟩), .string x] w (NilTakeEnd w) := by
  have HN := Lib.hid (tnone_zero b cs w hb h9)
  go_enter Tryz.func21, Tryz.ntmps21
  go_wp2_with fail
  refine HN.out.mono ?_
  rintro e w' ⟨rfl, rfl⟩
  go_wp2_with fail
  go_ret
  exact ⟨rfl, Upd.refl _ _⟩
structure NilOutEnd (w : World) (e : Ending) (w' : World) : Prop where
  e : e = .returned (.slice none 0 0)
  u : Upd [] w w'

set_option maxHeartbeats 1000000 in
theorem nilOut_any (w : World) : Calls Tryz.prog 20 #[.pointer none] w (NilOutEnd w) := by
  have HN := Lib.hid (tnone_nil w)
  go_enter Tryz.func20, Tryz.ntmps20
  go_wp2_with fail
  refine HN.out.mono ?_
  rintro e w' ⟨rfl, rfl⟩
  go_wp2_with fail
  go_ret
  exact ⟨rfl, Upd.refl _ _⟩
set_option maxHeartbeats 1000000 in
theorem zeroOut_any (w : World) {b : Nat} {cs : Array Value} (hb : Blk w b 70 cs) (h9 : cs[9]? = some (.pointer none)) : Calls Tryz.prog 20 #[.pointer (some ⟨b, 0, none⟩)] w (NilOutEnd w) := by
  have HN := Lib.hid (tnone_zero b cs w hb h9)
  go_enter Tryz.func20, Tryz.ntmps20
  go_wp2_with fail
  refine HN.out.mono ?_
  rintro e w' ⟨rfl, rfl⟩
  go_wp2_with fail
  go_ret
  exact ⟨rfl, Upd.refl _ _⟩
structure NilRoomEnd (w : World) (e : Ending) (w' : World) : Prop where
  e : e = .returned (.int .i64 0)
  u : Upd [] w w'

set_option maxHeartbeats 1000000 in
theorem nilRoom_any (w : World) : Calls Tryz.prog 32 #[.pointer none] w (NilRoomEnd w) := by
  have HN := Lib.hid (tnone_nil w)
  go_enter Tryz.func32, Tryz.ntmps32
  go_wp2_with fail
  refine HN.out.mono ?_
  rintro e w' ⟨rfl, rfl⟩
  go_wp2_with fail
  go_ret
  exact ⟨rfl, Upd.refl _ _⟩
structure NilPeerEnd (w : World) (e : Ending) (w' : World) : Prop where
  e : e = .returned (.string ⟨#[]⟩)
  u : Upd [] w w'

set_option maxHeartbeats 1000000 in
theorem nilPeer_any (w : World) : Calls Tryz.prog 33 #[.pointer none] w (NilPeerEnd w) := by
  have HN := Lib.hid (tnone_nil w)
  go_enter Tryz.func33, Tryz.ntmps33
  go_wp2_with fail
  refine HN.out.mono ?_
  rintro e w' ⟨rfl, rfl⟩
  go_wp2_with fail
  go_ret
  exact ⟨rfl, Upd.refl _ _⟩
end Go.Proofs.YtolfjfkkbhbbbaaGreat
