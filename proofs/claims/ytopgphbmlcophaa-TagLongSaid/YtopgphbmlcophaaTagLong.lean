/- The walk of the statement TagLong. -/
import Derived.Test.YtopgphbmlcophaaTagBack
namespace Go.Proofs.Ytopgphbmlcophaa
open Go.RowKit
set_option linter.unusedSimpArgs false
set_option linter.unusedVariables false

def longL (k : Nat) : List Tg := (List.range k).map fun (i : Nat) => ⟨300 + (i : Int), ⟨#[]⟩⟩
theorem longL_len (k : Nat) : (longL k).length = k := by simp [longL]
theorem longL_succ (k : Nat) : longL (k + 1) = longL k ++ [⟨300 + (k : Int), ⟨#[]⟩⟩] := by simp [longL, List.range_succ]
theorem longL_ok {k : Nat} (h : k ≤ 30) : ∀ t ∈ longL k, t.Ok := by
  intro t ht
  simp only [longL, List.mem_map, List.mem_range] at ht
  obtain ⟨i, hi, rfl⟩ := ht
  refine ⟨?_, ?_, by show (⟨#[]⟩ : ByteArray).size ≤ 1494; decide⟩ <;> simp only <;> omega
theorem long_bytes : ∀ k : Nat, k < 30 → strOfNums [1, 44 + (k : Int), 0, 0] = (⟨300 + (k : Int), ⟨#[]⟩⟩ : Tg).bytes := by decide +kernel
theorem long_enc {k : Nat} (h : k < 30) : encTgs (longL k) ++ strOfNums [1, 44 + (k : Int), 0, 0] = encTgs (longL (k + 1)) := by
  rw [longL_succ, encTgs_append, long_bytes k h, encTgs_cons]
  have : encTgs [] = ByteArray.empty := rfl
  rw [this, ByteArray.append_empty]
theorem long_put : ∀ k : Nat, k < 21 → putTgs (longL k) = (encTgs (longL k), 0) := by decide +kernel
theorem long_bad {k : Nat} (h : 20 < k) : putTgs (longL k) = (⟨#[]⟩, 2) := by rw [putTgs, if_pos (by rw [longL_len]; exact h)]
theorem long_size : ∀ k : Nat, k < 31 → (encTgs (longL k)).size = 4 * k := by decide +kernel
theorem four_str {P : Program} {src e dst : TypeId} (hs : P.underlying src = some (.slice e)) (he : P.underlying e = some (.int .u8)) (hd : P.underlying dst = some .string) {v : World} {g : Nat} {x y z u : Int} (hb : Blk v g e #[.int .u8 x, .int .u8 y, .int .u8 z, .int .u8 u]) :
    (convert src dst (.slice (some ⟨g, 0, none⟩) 4 4)).run P v = .ok (.string (strOfNums [x, y, z, u])) v :=
  run_convert_bytes_arg _ src e hs he g 0 4 4 [x, y, z, u] rfl (fun i hi => by
    rw [Nat.zero_add, hb.cell]
    have : i = 0 ∨ i = 1 ∨ i = 2 ∨ i = 3 := by omega
    rcases this with rfl | rfl | rfl | rfl <;> rfl) dst hd

set_option maxHeartbeats 4000000 in
set_option maxRecDepth 100000 in
theorem tagLong_any (n : Int) (w : World) :
    Calls Try.prog 6 #[.int .i64 n] w fun e w' => e = .returned (.bool true) ∧ Upd [] w w' := by
  obtain ⟨i0, hi, hz0, hz1, hz2⟩ := info_parts info_tag
  by_cases t1 : n < 0
  · go_enter Try.func6, Try.ntmps6
    go_wp2_with fail
    refine (alive_any _).mono ?_
    rintro e w2 ⟨rfl, hu2⟩
    go_wp2_with fail
    go_ret
    exact ⟨rfl, hu2⟩
  by_cases t2 : 30 < n
  · go_enter Try.func6, Try.ntmps6
    go_wp2_with fail
    refine (alive_any _).mono ?_
    rintro e w2 ⟨rfl, hu2⟩
    go_wp2_with fail
    go_ret
    exact ⟨rfl, hu2⟩
  obtain ⟨N, rfl⟩ := Int.eq_ofNat_of_zero_le (show 0 ≤ n by omega)
  have hN : N ≤ 30 := by omega
  have t1' : ¬ (N : Int) < 0 := by omega
  have t2' : ¬ (30 : Int) < N := by omega
  clear t1 t2
  go_enter Try.func6, Try.ntmps6
  go_wp2
  go_loopg [3, 4, 5] N (fun m s3 s4 s5 wr => ∃ (k : Nat) (ao : Option Addr) (cap : Nat) (own : List Nat), k + m = N ∧ s5 = .int .i64 k ∧ s3 = .slice ao k cap ∧ s4 = .string (encTgs (longL k)) ∧
    Own wr 41 2 (.slice ao k cap) k (tgCells (longL k)) own ∧ (∀ j, j ∈ own → w.heap.size ≤ j) ∧ Upd [] w wr)
  case atStart => exact ⟨0, none, 0, [], by omega, rfl, rfl, rfl, Own.nil _ _ _, by simp, Upd.refl _ _⟩
  case round =>
    obtain ⟨k, ao, cap, own, hk, rfl, rfl, rfl, hown, hin, hu⟩ := hrel
    have HO := Lib.hid hown
    have HIN := Lib.hid hin
    have HU := Lib.hid hu
    have hwz : w.heap.size ≤ wr.heap.size := hu.size
    by_cases t : k < N
    · have HE := Lib.hid (long_enc (show k < 30 by omega))
      have hs4 := long_size k (by omega)
      obtain ⟨E, hE⟩ : ∃ E, E = encTgs (longL k) := ⟨_, rfl⟩
      rw [← hE] at HE hs4
      rw [← hE]
      have hsz : E.size ≤ 1000 := by omega
      clear hown hin hu hs4 hE
      go_wp2_with (at_builtin; refine wpList_append_Own _ rfl (.tmp 22) (.tmp 26) 22 rfl 41 i0 _ 2 24 Try.underlying22 hi hz0 hz1 hz2 rfl (by decide) (.slice ao k cap) k (tgCells (longL k)) own (by simp [Act.eval]) (Own.alloc _ HO.out) ⟨wr.heap.size, 0, none⟩ 1 1 [.int .i64 (300 + k), .string ⟨#[]⟩] (by simp [Act.eval]) rfl (World.news_of_block (Blk.new _ _ _)) (by simp [Value.oneCell']) (by decide) (by simp only [maxLen]; omega) (by omega) ?_; intro g off cap1 w2 ow2 ho2 hin2 hu2; have HO2 := Lib.hid ho2; have HIN2 := Lib.hid hin2; have HU2 := Lib.hid hu2; clear ho2 hin2 hu2; have hcv := four_str Try.underlying43 Try.underlying5 Try.underlying9 (Blk.new w2 5 #[.int .u8 1, .int .u8 (44 + (k : Int)), .int .u8 0, .int .u8 0]); have hadd := run_string_add_sum (P := Try.prog) (w2.alloc (.cells #[.int .u8 1, .int .u8 (44 + (k : Int)), .int .u8 0, .int .u8 0] 5)) E (strOfNums [1, 44 + (k : Int), 0, 0]) (by rw [strOfNums_size]; simp; omega))
      go_roundg (N - (k + 1))
      case rel =>
        have hin3 : ∀ j, j ∈ ow2 → w.heap.size ≤ j := fun j hj => by
          rcases HIN2.out j hj with h | h
          · exact HIN.out j h
          · simp at h; omega
        refine ⟨k + 1, _, cap1, ow2, by omega, by go_num, rfl, by rw [HE.out], ?_, hin3, ?_⟩
        · rw [longL_succ, tgCells_snoc]; exact Own.alloc _ HO2.out
        · exact ((HU.out.alloc _).trans' HU2.out (fun x hx => .inr (HIN.out x hx))).alloc _
      case measure => omega
    · obtain rfl : k = N := by omega
      have HT : Hid (TgsAt wr (.slice ao k cap) (longL k)) := by
        have h := TgsAt.of_own (w := wr) (v := .slice ao k cap) (l := longL k) (e := 41) (own := own) (by rw [longL_len]; exact HO.out)
        exact h
      have hs4 := long_size k (by omega)
      by_cases t3 : 20 < k
      · have HP := Lib.hid (long_bad t3)
        have HG := Lib.hid (getTgs_many (longL k) (longL_ok hN) (by rw [longL_len]; exact t3))
        obtain ⟨E, hE⟩ : ∃ E, E = encTgs (longL k) := ⟨_, rfl⟩
        rw [← hE] at HG hs4
        rw [← hE]
        have hsz : E.size ≤ 1000 := by omega
        have t3' : (20 : Int) < k := by omega
        have HLS : Hid (∀ t ∈ longL k, t.s.size ≤ 140737488355328) := fun t ht => by have := (longL_ok hN t ht).2.2; omega
        clear hown hin hu hs4 hE
        go_wp2_with fail
        refine (putTags_any (longL k) _ _ HT.out HLS.out).mono ?_
        rintro e w3 ⟨rfl, hu3⟩
        rw [HP.out]
        have HU3 := Lib.hid (HU.out.trans hu3)
        clear hu3 HU
        go_wp2_with fail
        refine (getTags_any E (by omega) _).mono ?_
        rintro e w4 ⟨v4, rfl, ht4, hu4⟩
        rw [HG.out] at ht4
        rw [HG.out]
        obtain ⟨ao4, cap4, rfl, -, -, -⟩ := id ht4
        have HU4 := Lib.hid (HU3.out.trans hu4)
        clear hu4 HU3 ht4
        go_wp2_with fail
        refine (alive_any _).mono ?_
        rintro e w5 ⟨rfl, hu5⟩
        go_wp2_with fail
        go_ret
        exact ⟨rfl, HU4.out.trans hu5⟩
      · have HP := Lib.hid (long_put k (by omega))
        have HG := Lib.hid (getTgs_back (longL k) (longL_ok hN) (by rw [longL_len]; omega))
        obtain ⟨E, hE⟩ : ∃ E, E = encTgs (longL k) := ⟨_, rfl⟩
        rw [← hE] at HG HP hs4
        rw [← hE]
        have hsz : E.size ≤ 1000 := by omega
        have t3' : ¬ (20 : Int) < k := by omega
        have HLS : Hid (∀ t ∈ longL k, t.s.size ≤ 140737488355328) := fun t ht => by have := (longL_ok hN t ht).2.2; omega
        clear hown hin hu hs4 hE
        go_wp2_with fail
        refine (putTags_any (longL k) _ _ HT.out HLS.out).mono ?_
        rintro e w3 ⟨rfl, hu3⟩
        rw [HP.out]
        have HU3 := Lib.hid (HU.out.trans hu3)
        have HT3 := Lib.hid (HT.out.upd hu3)
        clear hu3 HU HT
        go_wp2_with fail
        refine (getTags_any E (by omega) _).mono ?_
        rintro e w4 ⟨v4, rfl, ht4, hu4⟩
        rw [HG.out] at ht4
        rw [HG.out]
        have HV4 := Lib.hid ht4
        have HU4 := Lib.hid (HU3.out.trans hu4)
        have HT4 := Lib.hid (HT3.out.upd hu4)
        clear hu4 HU3 ht4 HT3
        go_wp2_with fail
        refine (alive_any _).mono ?_
        rintro e w5 ⟨rfl, hu5⟩
        have HV5 := Lib.hid (HV4.out.upd hu5)
        have HT5 := Lib.hid (HT4.out.upd hu5)
        have HU5 := Lib.hid (HU4.out.trans hu5)
        clear hu5 HV4 HT4 HU4
        go_wp2_with fail
        refine (tgsSelf (longL k) _ _ _ HT5.out HV5.out).mono ?_
        rintro e w6 ⟨rfl, hu6⟩
        go_wp2_with fail
        go_ret
        exact ⟨rfl, HU5.out.trans hu6⟩

theorem tagLong_walk (n : Int) (_ : (Lit.int .i64 n).wf = true) (w : World) :
    Calls Try.prog 6 #[.int .i64 n] w fun e w' => e = .returned (.bool true) ∧ Below w.heap.size w w' :=
  (tagLong_any n w).mono fun e w' ⟨he, hu⟩ => ⟨he, hu.below⟩
end Go.Proofs.Ytopgphbmlcophaa
