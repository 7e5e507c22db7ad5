/- The walk of digest.words. -/
import Derived.Laws.Tables
import Derived.Laws.Rows
import Derived.Deep.Cut
import Derived.Test.YtglafpdealjlnaaGreatQDigA
namespace Go.Proofs.YtglafpdealjlnaaGreat
open Go.RowKit
set_option linter.unusedSimpArgs false
set_option linter.unusedVariables false
set_option maxRecDepth 100000

theorem Upd.setRow' {F : List Nat} {a b : World} {g : Nat} (h : Upd F a b) (hg : g ∈ F ∨ a.heap.size ≤ g) (cs : Array Value) : Upd F a (b.setRow g cs) :=
  ⟨h.os, h.tape, h.output, by have := h.size; simp; omega, fun k hk hn => (setRow_other _ _ _ _ (fun e => by subst e; rcases hg with h1 | h1; exact hn h1; omega)).trans (h.block k hk hn)⟩
theorem Blk.row_ {w : World} {g : Nat} {t : TypeId} {cs : Array Value} (h : Blk w g t cs) (cs' : Array Value) : Blk (w.setRow g cs') g t cs' := setRow_heap _ _ _ _ _ _ h
theorem Blk.row_far {w : World} {g k : Nat} {t : TypeId} {cs : Array Value} (h : Blk w g t cs) (hk : g ≠ k) (cs' : Array Value) : Blk (w.setRow k cs') g t cs := (setRow_other _ _ _ _ hk).trans h
/-- A row of words. -/
def uRow (W : Nat → U) (n : Nat) : Array Value := ((List.range n).map fun j => Value.int .u32 (W j).toNat).toArray
theorem uRow_get (W : Nat → U) (n j : Nat) (h : j < n) : (uRow W n)[j]? = some (.int .u32 (W j).toNat) := by simp [uRow, h]
theorem uRow_set (W : Nat → U) (n k : Nat) (x : U) : (uRow W n).setIfInBounds k (.int .u32 x.toNat) = uRow (fun j => if j = k then x else W j) n := by
  apply Array.ext
  · simp [uRow]
  · intro i h1 h2
    simp only [uRow, Array.getElem_setIfInBounds, List.getElem_toArray, List.getElem_map, List.getElem_range]
    by_cases h : k = i
    · subst h
      have h3 : k < ((List.range n).map fun j => Value.int .u32 (W j).toNat).toArray.size := by simpa [uRow] using h1
      simp
    · simp [h, Ne.symm h]
theorem uRow_16 (W : Nat → U) : uRow W 16 = #[.int .u32 (W 0).toNat, .int .u32 (W 1).toNat, .int .u32 (W 2).toNat, .int .u32 (W 3).toNat, .int .u32 (W 4).toNat, .int .u32 (W 5).toNat, .int .u32 (W 6).toNat, .int .u32 (W 7).toNat, .int .u32 (W 8).toNat, .int .u32 (W 9).toNat, .int .u32 (W 10).toNat, .int .u32 (W 11).toNat, .int .u32 (W 12).toNat, .int .u32 (W 13).toNat, .int .u32 (W 14).toNat, .int .u32 (W 15).toNat] := rfl

set_option maxHeartbeats 4000000 in
theorem digWords_any (b : ByteArray) (o : Nat) (s : ByteArray) (hs : s.size ≤ maxLen) (h64 : 64 ≤ s.size) (hso : ∀ i, i < 64 → s.data[i]? = b.data[o + i]?) (w : World) :
    Calls Tryz.prog 339 #[.string s] w fun e w' => e = .returned (.agg (uRow (wordsU b o 64) 16)) ∧ Upd [] w w' := by
  have HS := Lib.hid hso
  simp only [maxLen] at hs
  clear hso
  obtain ⟨S, hS⟩ : ∃ S : Nat → Nat, ∀ i (h : i < s.size), s[i].toNat = S i := ⟨fun i => (s.data[i]?.getD 0).toNat, fun i h => by
    have h' : i < s.data.size := h
    simp only [Array.getElem?_eq_getElem h', Option.getD_some]
    rfl⟩
  have hSo : ∀ i, i < 64 → BitVec.ofNat 32 (S i) = BitVec.ofNat 32 (b.data[o + i]?.getD 0).toNat := fun i hi => by
    have h' : i < s.data.size := Nat.lt_of_lt_of_le hi h64
    rw [← hS i (by omega), ← HS.out i hi, Array.getElem?_eq_getElem h', Option.getD_some]
    rfl
  have hSb : ∀ i, i < 64 → S i < 256 := fun i hi => by
    rw [← hS i (by omega)]
    exact UInt8.toNat_lt _
  have HSO := Lib.hid hSo
  clear HS hSo
  have A0 : Blk ((w.alloc (Obj.cells (uRow (fun _ => 0) 16) 378)).alloc (Obj.cells (uRow (fun _ => 0) 16) 378)) w.heap.size 378 (uRow (fun _ => 0) 16) := (Blk.new w 378 (uRow (fun _ => 0) 16)).alloc _
  have A1 : Blk ((w.alloc (Obj.cells (uRow (fun _ => 0) 16) 378)).alloc (Obj.cells (uRow (fun _ => 0) 16) 378)) (w.heap.size + 1) 378 (uRow (fun _ => 0) 16) := by
    have := Blk.new (w.alloc (Obj.cells (uRow (fun _ => 0) 16) 378)) 378 (uRow (fun _ => 0) 16)
    rwa [World.size_alloc] at this
  have U1 : Upd [] w ((w.alloc (Obj.cells (uRow (fun _ => 0) 16) 378)).alloc (Obj.cells (uRow (fun _ => 0) 16) 378)) := ((Upd.refl _ _).alloc _).alloc _
  go_enter Tryz.func339, Tryz.ntmps339
  go_wp2_with fail
  go_loopg [5] 64 (fun m s5 wr => ∃ k : Nat, k + m = 64 ∧ s5 = .int .i64 k ∧ Upd [] w wr ∧ Blk wr w.heap.size 378 (uRow (fun _ => 0) 16) ∧ Blk wr (w.heap.size + 1) 378 (uRow (wordsU b o k) 16))
  case atStart => exact ⟨0, rfl, rfl, U1, A0, A1⟩
  case round =>
    obtain ⟨k, hk, rfl, hu, hB0, hB1⟩ := hrel
    clear A0 A1 U1
    by_cases t : k < 64
    · have hc : wr.cell? ⟨w.heap.size + 1, k / 4, none⟩ = some (.int .u32 (wordsU b o k (k / 4)).toNat) := (hB1.cell _).trans (uRow_get _ _ _ (by omega))
      have hf := hB1.frozen (k / 4)
      have hx : (BitVec.ofNat 32 (S k)).toNat = S k := by rw [BitVec.toNat_ofNat]; have := hSb k t; omega
      have hsk : ∀ h, s[k]'h = s[k]'h := fun _ => rfl
      have hsb := hSb k t
      have HB0 := Lib.hid hB0
      have HB1 := Lib.hid hB1
      have HU := Lib.hid hu
      have HE : Hid (wordsU b o (k + 1) = fun j => if j = k / 4 then wordsU b o k (k / 4) ||| BitVec.ofNat 32 (S k) <<< (8 * (k % 4)) else wordsU b o k j) := by
        show _ = _
        rw [HSO.out k t]
        funext j
        rw [wordsU]
        by_cases hj : j = k / 4
        · subst hj; rfl
        · show (if j = k / 4 then _ else _) = _
          rw [if_neg hj, if_neg hj]
      generalize wordsU b o k (k / 4) = wk at hc HE
      clear hB0 hB1 hu hSb
      go_wp2_with fail
      go_region
      have HV : bits BinOp.or IntKind.u32 (wk.toNat : Int) ((S k : Int) * 2 ^ (8 * (k % 4)) % 4294967296) = ((wk ||| BitVec.ofNat 32 (S k) <<< (8 * (k % 4))).toNat : Int) := by
        have := shl_u (BitVec.ofNat 32 (S k)) (8 * (k % 4))
        rw [hx] at this
        rw [this, bits_or_u]
      rw [HV]
      have hB0' := (HB0.out.far (p := ⟨w.heap.size + 1, k / 4, none⟩) (.int .u32 ((wk ||| BitVec.ofNat 32 (S k) <<< (8 * (k % 4))).toNat : Int)) (by simp)).drew
      have hB1' := (HB1.out.set_ (k / 4) (.int .u32 ((wk ||| BitVec.ofNat 32 (S k) <<< (8 * (k % 4))).toNat : Int))).drew
      have hu' := (HU.out.setCell (p := ⟨w.heap.size + 1, k / 4, none⟩) (.int .u32 ((wk ||| BitVec.ofNat 32 (S k) <<< (8 * (k % 4))).toNat : Int)) (.inr (by simp))).drew
      rw [uRow_set, ← HE.out] at hB1'
      clear HV hc hf hx
      generalize (wr.setCell ⟨w.heap.size + 1, k / 4, none⟩ (.int .u32 ((wk ||| BitVec.ofNat 32 (S k) <<< (8 * (k % 4))).toNat : Int))).drew = W at *
      generalize ((wk ||| BitVec.ofNat 32 (S k) <<< (8 * (k % 4))).toNat : Int) = z
      go_wp2_with fail
      go_roundg (64 - (k + 1))
      case rel => exact ⟨k + 1, by omega, by go_num, hu', hB0', hB1'⟩
      case measure => omega
    · obtain rfl : k = 64 := by omega
      go_upto_region 7 with (fail)
      refine wp_region_lit ?_
      refine wpList_load_row rfl _ _ rfl (w.heap.size + 1) rfl _ _ _ _ hB1 Tryz.underlying378 rfl (by kernel_rfl) ?_
      refine wpList_store_row rfl _ _ _ rfl w.heap.size _ rfl rfl _ _ hB0 (by kernel_rfl) (by simp [uRow]) (by kernel_rfl) ?_
      have hB2 : Blk (wr.setRow w.heap.size (uRow (wordsU b o 64) 16)) w.heap.size 378 (uRow (wordsU b o 64) 16) := setRow_heap _ _ _ _ _ _ hB0
      have hu2 : Upd [] w (wr.setRow w.heap.size (uRow (wordsU b o 64) 16)) := hu.setRow' (.inr (Nat.le_refl _)) _
      generalize wr.setRow w.heap.size (uRow (wordsU b o 64) 16) = W at *
      simp only [Act.put, Nat.zero_add, Nat.reduceAdd, List.setIfInBounds_toArray, List.set_cons_zero, List.set_cons_succ]
      go_wp2_with fail
      exact bodyPost_ret (results_cell_row rfl _ _ w.heap.size _ _ _ _ rfl hB2 Tryz.underlying378 rfl (by kernel_rfl)) rfl ⟨rfl, hu2⟩
end Go.Proofs.YtglafpdealjlnaaGreat
