/- The walks of msg.num, Kind, known, wrong, Make. -/
import Derived.Test.YtcplhlokbnaabaaLen
import Derived.Test.YtcplhlokbnaabaaAvpN
import Derived.Test.YtcplhlokbnaabaaWire
namespace Go.Proofs.Ytcplhlokbnaabaa
open Go.RowKit
set_option maxRecDepth 20000
set_option linter.unusedSimpArgs false
set_option linter.unusedVariables false

theorem msgNum_any (s : ByteArray) (i : Nat) (hs : s.size ≤ maxLen) (hv : i + 2 ≤ s.size) (w : World) :
    Calls Try.prog 25 #[.string s, .int .i64 i] w fun e w' => e = .returned (.int .i64 (num s i 2)) ∧ w = w' := by
  have HS := Lib.hid (And.intro hs hv)
  clear hs hv
  go_enter Try.func25, Try.ntmps25
  go_wp2_with fail
  refine (wireGet_ok s i 2 (by omega) HS.out.1 HS.out.2 _).mono ?_
  rintro e w1 ⟨rfl, rfl⟩
  go_wp2_with fail
  go_ret
  exact ⟨rfl, rfl⟩

/-- A slice of ints. -/
def IntsAt (w : World) (v : Value) (l : List Int) : Prop :=
  ∃ ao cap, v = .slice ao l.length cap ∧ l.length ≤ cap ∧ cap ≤ maxLen ∧ ∀ i a, l[i]? = some a → ∃ q, ao = some q ∧ w.cell? (q.add i) = some (.int .i64 a)
theorem IntsAt.upd {w w' : World} {v : Value} {l : List Int} (h : IntsAt w v l) (hu : Upd [] w w') : IntsAt w' v l := by
  obtain ⟨ao, cap, rfl, h1, h2, h3⟩ := h
  refine ⟨ao, cap, rfl, h1, h2, fun i t ht => ?_⟩
  obtain ⟨q, rfl, k⟩ := h3 i t ht
  exact ⟨q, rfl, (hu.cell (cell_lt' k) (by simp)).trans k⟩
theorem IntsAt.nil (w : World) : IntsAt w (.slice none 0 0) [] := ⟨none, 0, rfl, by simp, by simp [maxLen], by simp⟩
theorem IntsAt.of_blk {w : World} {g : Nat} {t : TypeId} {l : List Int} (h : Blk w g t (l.map (Value.int .i64)).toArray) (hl : l.length ≤ maxLen) : IntsAt w (.slice (some ⟨g, 0, none⟩) l.length l.length) l := by
  refine ⟨_, _, rfl, Nat.le_refl _, hl, fun i x hx => ⟨_, rfl, ?_⟩⟩
  rw [add_plain', Nat.zero_add, h.cell]
  simp [hx]

def needsOf (kind : Int) : Option (List Int) :=
  if kind = 1 ∨ kind = 2 then some [2, 3, 7, 9] else if kind = 4 then some [9, 1] else if kind = 10 ∨ kind = 7 then some [14, 15] else if kind = 11 ∨ kind = 8 then some [14]
  else if kind = 12 ∨ kind = 9 then some [24, 19] else if kind = 14 then some [1, 14] else if kind = 15 then some [34] else if kind = 16 then some [35] else if kind = 3 ∨ kind = 6 then some [] else none
theorem known_mk (kind : Int) (w : World) (l : List Int) (h : needsOf kind = some l) (hl : l.length ≤ maxLen) : ∃ u : Value, (Ending.returned (.tuple #[.slice (some ⟨w.heap.size, 0, none⟩) l.length l.length, .bool true])) = Ending.returned (.tuple #[u, .bool (needsOf kind).isSome]) ∧
      IntsAt (w.alloc (.cells (l.map (Value.int .i64)).toArray 3)) u ((needsOf kind).getD []) ∧ Upd [] w (w.alloc (.cells (l.map (Value.int .i64)).toArray 3)) := by
  rw [h]
  exact ⟨_, rfl, IntsAt.of_blk (Blk.new _ _ _) hl, (Upd.refl _ _).alloc _⟩
set_option maxHeartbeats 1000000 in
theorem known_1 (w : World) : Calls Try.prog 22 #[.int .i64 1] w fun e w' => ∃ v, e = .returned (.tuple #[v, .bool (needsOf 1).isSome]) ∧ IntsAt w' v ((needsOf 1).getD []) ∧ Upd [] w w' := by
  go_enter Try.func22, Try.ntmps22
  go_wp2_with fail
  go_ret2
  exact known_mk 1 w [2, 3, 7, 9] (by decide) (by simp [maxLen])
set_option maxHeartbeats 1000000 in
theorem known_2 (w : World) : Calls Try.prog 22 #[.int .i64 2] w fun e w' => ∃ v, e = .returned (.tuple #[v, .bool (needsOf 2).isSome]) ∧ IntsAt w' v ((needsOf 2).getD []) ∧ Upd [] w w' := by
  go_enter Try.func22, Try.ntmps22
  go_wp2_with fail
  go_ret2
  exact known_mk 2 w [2, 3, 7, 9] (by decide) (by simp [maxLen])
set_option maxHeartbeats 1000000 in
theorem known_4 (w : World) : Calls Try.prog 22 #[.int .i64 4] w fun e w' => ∃ v, e = .returned (.tuple #[v, .bool (needsOf 4).isSome]) ∧ IntsAt w' v ((needsOf 4).getD []) ∧ Upd [] w w' := by
  go_enter Try.func22, Try.ntmps22
  go_wp2_with fail
  go_ret2
  exact known_mk 4 w [9, 1] (by decide) (by simp [maxLen])
set_option maxHeartbeats 1000000 in
theorem known_10 (w : World) : Calls Try.prog 22 #[.int .i64 10] w fun e w' => ∃ v, e = .returned (.tuple #[v, .bool (needsOf 10).isSome]) ∧ IntsAt w' v ((needsOf 10).getD []) ∧ Upd [] w w' := by
  go_enter Try.func22, Try.ntmps22
  go_wp2_with fail
  go_ret2
  exact known_mk 10 w [14, 15] (by decide) (by simp [maxLen])
set_option maxHeartbeats 1000000 in
theorem known_7 (w : World) : Calls Try.prog 22 #[.int .i64 7] w fun e w' => ∃ v, e = .returned (.tuple #[v, .bool (needsOf 7).isSome]) ∧ IntsAt w' v ((needsOf 7).getD []) ∧ Upd [] w w' := by
  go_enter Try.func22, Try.ntmps22
  go_wp2_with fail
  go_ret2
  exact known_mk 7 w [14, 15] (by decide) (by simp [maxLen])
set_option maxHeartbeats 1000000 in
theorem known_11 (w : World) : Calls Try.prog 22 #[.int .i64 11] w fun e w' => ∃ v, e = .returned (.tuple #[v, .bool (needsOf 11).isSome]) ∧ IntsAt w' v ((needsOf 11).getD []) ∧ Upd [] w w' := by
  go_enter Try.func22, Try.ntmps22
  go_wp2_with fail
  go_ret2
  exact known_mk 11 w [14] (by decide) (by simp [maxLen])
set_option maxHeartbeats 1000000 in
theorem known_8 (w : World) : Calls Try.prog 22 #[.int .i64 8] w fun e w' => ∃ v, e = .returned (.tuple #[v, .bool (needsOf 8).isSome]) ∧ IntsAt w' v ((needsOf 8).getD []) ∧ Upd [] w w' := by
  go_enter Try.func22, Try.ntmps22
  go_wp2_with fail
  go_ret2
  exact known_mk 8 w [14] (by decide) (by simp [maxLen])
set_option maxHeartbeats 1000000 in
theorem known_12 (w : World) : Calls Try.prog 22 #[.int .i64 12] w fun e w' => ∃ v, e = .returned (.tuple #[v, .bool (needsOf 12).isSome]) ∧ IntsAt w' v ((needsOf 12).getD []) ∧ Upd [] w w' := by
  go_enter Try.func22, Try.ntmps22
  go_wp2_with fail
  go_ret2
  exact known_mk 12 w [24, 19] (by decide) (by simp [maxLen])
set_option maxHeartbeats 1000000 in
theorem known_9 (w : World) : Calls Try.prog 22 #[.int .i64 9] w fun e w' => ∃ v, e = .returned (.tuple #[v, .bool (needsOf 9).isSome]) ∧ IntsAt w' v ((needsOf 9).getD []) ∧ Upd [] w w' := by
  go_enter Try.func22, Try.ntmps22
  go_wp2_with fail
  go_ret2
  exact known_mk 9 w [24, 19] (by decide) (by simp [maxLen])
set_option maxHeartbeats 1000000 in
theorem known_14 (w : World) : Calls Try.prog 22 #[.int .i64 14] w fun e w' => ∃ v, e = .returned (.tuple #[v, .bool (needsOf 14).isSome]) ∧ IntsAt w' v ((needsOf 14).getD []) ∧ Upd [] w w' := by
  go_enter Try.func22, Try.ntmps22
  go_wp2_with fail
  go_ret2
  exact known_mk 14 w [1, 14] (by decide) (by simp [maxLen])
set_option maxHeartbeats 1000000 in
theorem known_15 (w : World) : Calls Try.prog 22 #[.int .i64 15] w fun e w' => ∃ v, e = .returned (.tuple #[v, .bool (needsOf 15).isSome]) ∧ IntsAt w' v ((needsOf 15).getD []) ∧ Upd [] w w' := by
  go_enter Try.func22, Try.ntmps22
  go_wp2_with fail
  go_ret2
  exact known_mk 15 w [34] (by decide) (by simp [maxLen])
set_option maxHeartbeats 1000000 in
theorem known_16 (w : World) : Calls Try.prog 22 #[.int .i64 16] w fun e w' => ∃ v, e = .returned (.tuple #[v, .bool (needsOf 16).isSome]) ∧ IntsAt w' v ((needsOf 16).getD []) ∧ Upd [] w w' := by
  go_enter Try.func22, Try.ntmps22
  go_wp2_with fail
  go_ret2
  exact known_mk 16 w [35] (by decide) (by simp [maxLen])
set_option maxHeartbeats 1000000 in
theorem known_3 (w : World) : Calls Try.prog 22 #[.int .i64 3] w fun e w' => ∃ v, e = .returned (.tuple #[v, .bool (needsOf 3).isSome]) ∧ IntsAt w' v ((needsOf 3).getD []) ∧ Upd [] w w' := by
  go_enter Try.func22, Try.ntmps22
  go_wp2_with fail
  go_ret2
  exact ⟨_, rfl, IntsAt.nil _, Upd.refl _ _⟩
set_option maxHeartbeats 1000000 in
theorem known_6 (w : World) : Calls Try.prog 22 #[.int .i64 6] w fun e w' => ∃ v, e = .returned (.tuple #[v, .bool (needsOf 6).isSome]) ∧ IntsAt w' v ((needsOf 6).getD []) ∧ Upd [] w w' := by
  go_enter Try.func22, Try.ntmps22
  go_wp2_with fail
  go_ret2
  exact ⟨_, rfl, IntsAt.nil _, Upd.refl _ _⟩
set_option maxHeartbeats 1000000 in
theorem known_none (kind : Int) (w : World) (h : needsOf kind = none) (h1 : kind ≠ 1) (h2 : kind ≠ 2) (h4 : kind ≠ 4) (h10 : kind ≠ 10) (h7 : kind ≠ 7) (h11 : kind ≠ 11) (h8 : kind ≠ 8) (h12 : kind ≠ 12) (h9 : kind ≠ 9) (h14 : kind ≠ 14) (h15 : kind ≠ 15) (h16 : kind ≠ 16) (h3 : kind ≠ 3) (h6 : kind ≠ 6) : Calls Try.prog 22 #[.int .i64 kind] w fun e w' => ∃ v, e = .returned (.tuple #[v, .bool (needsOf kind).isSome]) ∧ IntsAt w' v ((needsOf kind).getD []) ∧ Upd [] w w' := by
  rw [h]
  go_enter Try.func22, Try.ntmps22
  go_wp2_with fail
  go_ret2
  exact ⟨_, rfl, IntsAt.nil _, Upd.refl _ _⟩
theorem known_any (kind : Int) (w : World) : Calls Try.prog 22 #[.int .i64 kind] w fun e w' => ∃ v, e = .returned (.tuple #[v, .bool (needsOf kind).isSome]) ∧ IntsAt w' v ((needsOf kind).getD []) ∧ Upd [] w w' := by
  by_cases h1 : kind = 1
  · subst h1; exact known_1 w
  by_cases h2 : kind = 2
  · subst h2; exact known_2 w
  by_cases h4 : kind = 4
  · subst h4; exact known_4 w
  by_cases h10 : kind = 10
  · subst h10; exact known_10 w
  by_cases h7 : kind = 7
  · subst h7; exact known_7 w
  by_cases h11 : kind = 11
  · subst h11; exact known_11 w
  by_cases h8 : kind = 8
  · subst h8; exact known_8 w
  by_cases h12 : kind = 12
  · subst h12; exact known_12 w
  by_cases h9 : kind = 9
  · subst h9; exact known_9 w
  by_cases h14 : kind = 14
  · subst h14; exact known_14 w
  by_cases h15 : kind = 15
  · subst h15; exact known_15 w
  by_cases h16 : kind = 16
  · subst h16; exact known_16 w
  by_cases h3 : kind = 3
  · subst h3; exact known_3 w
  by_cases h6 : kind = 6
  · subst h6; exact known_6 w
  exact known_none kind w (by simp [needsOf, h1, h2, h4, h10, h7, h11, h8, h12, h9, h14, h15, h16, h3, h6]) h1 h2 h4 h10 h7 h11 h8 h12 h9 h14 h15 h16 h3 h6
end Go.Proofs.Ytcplhlokbnaabaa
