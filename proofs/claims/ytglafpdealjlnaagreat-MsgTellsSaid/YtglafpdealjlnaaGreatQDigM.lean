/- The walk of digest.Md5. The walk of digest.masked, Mask, Unmask. -/
import Derived.Deep.WholeRow
import Derived.Laws.IdiomStrings
import Derived.Test.YtglafpdealjlnaaGreatQDigC
import Derived.Test.YtglafpdealjlnaaGreatQStr
import Derived.Test.YtglafpdealjlnaaGreatQLib
namespace Go.Proofs.YtglafpdealjlnaaGreat
open Go.RowKit
set_option linter.unusedSimpArgs false
set_option linter.unusedVariables false
set_option maxRecDepth 100000

def u8s (l : List Int) : List Value := l.map (Value.int .u8)
theorem u8s_snoc (l : List Int) (x : Int) : u8s (l ++ [x]) = u8s l ++ [.int .u8 x] := by simp [u8s]
theorem Own.str {w : World} {g off n cap : Nat} {l : List Int} {own : List Nat} (h : Own w 5 1 (.slice (some ⟨g, off, none⟩) n cap) n (u8s l) own) :
    (convert 151 9 (.slice (some ⟨g, off, none⟩) n cap)).run Tryz.prog w = .ok (.string (strOfNums l)) w := by
  have hl : l.length = n := by have := h.1; simpa [u8s] using this
  refine run_convert_bytes_arg w 151 5 Tryz.underlying151 Tryz.underlying5 g off n cap l hl ?_ 9 Tryz.underlying9
  intro i hi
  obtain ⟨g', off', cap', hv', _, _, _, h5⟩ := h.form (by omega)
  injection hv' with e1 e2 e3
  injection e1 with e1
  injection e1 with e1 e4
  subst e1 e4
  rw [h5 i (.int .u8 (l.getD i 0))]
  simp [u8s, show i < l.length by omega]

/-- One block is stored whole, by the last operation. -/
def dgA (w0 : World) (g : Nat) (t : TypeId) (row : Array Value) : List Value → World → Prop
  | [], W => Upd [] w0 W
  | _ :: _, W => Upd [g] w0 W ∧ Blk W g t row
def md5Row (b : ByteArray) : Array Value := ((List.range 16).map fun i => Value.int .u8 (md5At b i)).toArray
def mdRow (b : ByteArray) (k : Nat) : Array Value := ((List.range 16).map fun i => Value.int .u8 (if i < k then (md5At b i : Int) else 0)).toArray
theorem mdRow_get (b : ByteArray) (k j : Nat) (h : j < 16) : (mdRow b k)[j]? = some (Value.int .u8 (if j < k then (md5At b j : Int) else 0)) := by simp [mdRow, h]
theorem mdRow_set (b : ByteArray) (k : Nat) (h : k < 16) : (mdRow b k).setIfInBounds k (.int .u8 (md5At b k)) = mdRow b (k + 1) := by
  have hz : ∀ k, (mdRow b k).size = 16 := fun k => by simp [mdRow]
  apply Array.ext_getElem?
  intro i
  rw [Array.getElem?_setIfInBounds]
  by_cases hk : k = i
  · subst hk
    rw [if_pos rfl, if_pos (by rw [hz]; exact h), mdRow_get _ _ _ h, if_pos (by omega)]
  · rw [if_neg hk]
    by_cases h2 : i < 16
    · rw [mdRow_get _ _ _ h2, mdRow_get _ _ _ h2]
      by_cases h3 : i < k
      · rw [if_pos h3, if_pos (by omega)]
      · rw [if_neg h3, if_neg (by omega)]
    · rw [Array.getElem?_eq_none (by rw [hz]; omega), Array.getElem?_eq_none (by rw [hz]; omega)]
theorem mdRow_all (b : ByteArray) : mdRow b 16 = md5Row b := by
  unfold mdRow md5Row
  congr 1
def zero16 : Array Value := ((List.range 16).map fun i => Value.int .u8 0).toArray

set_option maxHeartbeats 4000000 in
theorem md5_any (b : ByteArray) (hb : b.size ≤ 1000000) (w : World) :
    Calls Tryz.prog 335 #[.string b] w fun e w' => e = .returned (.agg (md5Row b)) ∧ Upd [] w w' := by
  obtain ⟨i0, hi, hz0, hz1, hz2⟩ := info_parts info_u8
  obtain ⟨n, hn⟩ : ∃ n, b.size = n := ⟨_, rfl⟩
  rw [hn] at hb
  have A0 : Blk (w.alloc (Obj.cells zero16 361)) w.heap.size 361 zero16 := Blk.new _ _ _
  have U0 : Upd [] w (w.alloc (Obj.cells zero16 361)) := (Upd.refl _ _).alloc _
  go_enter Tryz.func335, Tryz.ntmps335
  go_upto_region 1 with (fail)
  have hw1 : (w.alloc (Obj.cells zero16 361)).heap.size = w.heap.size + 1 := by simp
  generalize hw1' : w.alloc (Obj.cells zero16 361) = w1 at *
  rw [show w.alloc (Obj.cells #[Value.int .u8 0, Value.int .u8 0, Value.int .u8 0, Value.int .u8 0, Value.int .u8 0, Value.int .u8 0, Value.int .u8 0, Value.int .u8 0, Value.int .u8 0, Value.int .u8 0, Value.int .u8 0, Value.int .u8 0, Value.int .u8 0, Value.int .u8 0, Value.int .u8 0, Value.int .u8 0] 361) = w1 from hw1']
  clear hw1'
  go_wp2_with fail
  go_loopg [3] (zerosN n) (fun m s3 wr => ∃ (k g off cap : Nat) (own : List Nat), k + m = zerosN n ∧ s3 = .slice (some ⟨g, off, none⟩) (k + 1) cap ∧ Own wr 5 1 (.slice (some ⟨g, off, none⟩) (k + 1) cap) (k + 1) (u8s (128 :: List.replicate k 0)) own ∧ (∀ j, j ∈ own → w.heap.size + 1 ≤ j) ∧ Upd [] w1 wr)
  case atStart => exact ⟨0, _, 0, 1, _, by omega, rfl, (by have := Own.one_new w1 5 (.int .u8 128); rw [hw1] at this; exact this), by simp, (Upd.refl _ _).alloc _⟩
  case round =>
    obtain ⟨k, g, off, cap, own, hk, rfl, hown, hin, hu⟩ := hrel
    have hz := zerosN_spec n
    have HO := Lib.hid hown
    have HIN := Lib.hid hin
    have HU := Lib.hid hu
    have hsz : w1.heap.size ≤ wr.heap.size := hu.size
    clear hown hin hu
    by_cases t : k < zerosN n
    · have q1 := zerosN_least n k t
      have q2 : ((n : Int) + (k + 1)) % 64 ≠ 56 := by omega
      have hk64 : k < 64 := by omega
      clear q1
      go_wp2_with (at_builtin; refine wpList_append_Own _ rfl (.tmp 17) (.tmp 18) 151 rfl 5 i0 _ 1 1 Tryz.underlying151 hi hz0 hz1 hz2 rfl (by decide) (.slice (some ⟨g, off, none⟩) (k + 1) cap) (k + 1) (u8s (128 :: List.replicate k 0)) own (by simp [Act.eval]) (Own.alloc _ HO.out) ⟨wr.heap.size, 0, none⟩ 1 1 [.int .u8 0] (by simp [Act.eval]) rfl (World.news_of_block (Blk.new _ _ _)) (by simp [Value.oneCell']) (by decide) (by simp only [maxLen]; omega) (by omega) ?_; intro g2 off2 cap2 w2 ow2 ho2 hin2 hu2; have HO2 := Lib.hid ho2; have HIN2 := Lib.hid hin2; have HU2 := Lib.hid hu2; clear ho2 hin2 hu2)
      go_roundg (zerosN n - (k + 1))
      case rel =>
        refine ⟨k + 1, g2, off2, cap2, ow2, by omega, rfl, ?_, fun j hj => ?_, (HU.out.alloc _).trans' HU2.out (fun x hx => .inr (by rw [hw1]; exact HIN.out x hx))⟩
        · rw [List.replicate_succ', ← List.cons_append, u8s_snoc]; exact HO2.out
        · rcases HIN2.out j hj with h | h
          · exact HIN.out j h
          · simp at h; omega
      case measure => omega
    · obtain rfl : k = zerosN n := by omega
      have q2 : ((n : Int) + (zerosN n + 1)) % 64 = 56 := by omega
      go_wp2_with fail
      obtain ⟨z, hz'⟩ : ∃ z, zerosN n = z := ⟨_, rfl⟩
      rw [hz'] at HO hz q2 ⊢
      have HZ := Lib.hid hz'
      have HZ2 := Lib.hid hz
      have hz64 : z < 64 := hz.2
      clear hz hz' q2
      go_loopg [3, 24] 8 (fun m s3 s24 wr => ∃ (k g off cap : Nat) (own : List Nat), k + m = 8 ∧ s24 = .int .i64 k ∧ s3 = .slice (some ⟨g, off, none⟩) (z + 1 + k) cap ∧ Own wr 5 1 (.slice (some ⟨g, off, none⟩) (z + 1 + k) cap) (z + 1 + k) (u8s (128 :: List.replicate z 0 ++ (List.range k).map (fun i => ((n * 8 / 256 ^ i % 256 : Nat) : Int)))) own ∧ (∀ j, j ∈ own → w.heap.size + 1 ≤ j) ∧ Upd [] w1 wr)
      case atStart => exact ⟨0, g, off, cap, own, rfl, rfl, rfl, by simpa using HO.out, HIN.out, HU.out⟩
      case round =>
        clear HO HIN HU hsz
        obtain ⟨k, g, off, cap, own, hk, rfl, rfl, hown, hin, hu⟩ := hrel
        have HO := Lib.hid hown
        have HIN := Lib.hid hin
        have HU := Lib.hid hu
        have hsz : w1.heap.size ≤ wr.heap.size := hu.size
        clear hown hin hu
        by_cases t : k < 8
        · have HE : Hid ((n : Int) * 8 / 2 ^ (8 * k) % 256 = ((n * 8 / 256 ^ k % 256 : Nat) : Int)) := by
            show _ = _
            rw [show (2 : Int) ^ (8 * k) = ((256 ^ k : Nat) : Int) by rw [Int.pow_mul]; norm_cast]
            norm_cast
          go_wp2_with (at_builtin; refine wpList_append_Own _ rfl (.tmp 27) (.tmp 33) 151 rfl 5 i0 _ 1 1 Tryz.underlying151 hi hz0 hz1 hz2 rfl (by decide) (.slice (some ⟨g, off, none⟩) (z + 1 + k) cap) (z + 1 + k) (u8s (128 :: List.replicate z 0 ++ (List.range k).map (fun i => ((n * 8 / 256 ^ i % 256 : Nat) : Int)))) own (by simp [Act.eval]) (Own.alloc _ HO.out) ⟨wr.heap.size, 0, none⟩ 1 1 [.int .u8 ((n : Int) * 8 / 2 ^ (8 * k) % 256)] (by simp [Act.eval]) rfl (World.news_of_block (Blk.new _ _ _)) (by simp [Value.oneCell']) (by decide) (by simp only [maxLen]; omega) (by omega) ?_; intro g2 off2 cap2 w2 ow2 ho2 hin2 hu2; have HO2 := Lib.hid ho2; have HIN2 := Lib.hid hin2; have HU2 := Lib.hid hu2; clear ho2 hin2 hu2)
          go_roundg (8 - (k + 1))
          case rel =>
            refine ⟨k + 1, g2, off2, cap2, ow2, by omega, by go_num, rfl, ?_, fun j hj => ?_, (HU.out.alloc _).trans' HU2.out (fun x hx => .inr (by rw [hw1]; exact HIN.out x hx))⟩
            · rw [List.range_succ, List.map_append, ← List.append_assoc, List.map_singleton, u8s_snoc, ← HE.out]; exact HO2.out
            · rcases HIN2.out j hj with h | h
              · exact HIN.out j h
              · simp at h; omega
          case measure => omega
        · obtain rfl : k = 8 := by omega
          have hcv := HO.out.str
          obtain ⟨T, hT⟩ : ∃ T, strOfNums (128 :: List.replicate z 0 ++ (List.range 8).map (fun i => ((n * 8 / 256 ^ i % 256 : Nat) : Int))) = T := ⟨_, rfl⟩
          rw [hT] at hcv
          have hTz : T.size = 9 + z := by rw [← hT, strOfNums_size]; simp; omega
          have hadd := run_string_add_sum (P := Tryz.prog) wr b T (by rw [hn, hTz]; omega)
          have HP : Hid (padB b = b ++ T) := by show _ = _; rw [padB, hn, ← hT, tailL, HZ.out]
          obtain ⟨Pd, hPd⟩ : ∃ Pd, b ++ T = Pd := ⟨_, rfl⟩
          have HPz : Pd.size = 64 * blocksN n := by rw [← hPd, ByteArray.size_append, hn, hTz, blocksN_spec, HZ.out]
          rw [hPd] at hadd HP
          have hT' := Lib.hid hTz
          clear hT hTz hPd
          obtain ⟨N, hN⟩ : ∃ N, blocksN n = N := ⟨_, rfl⟩
          rw [hN] at HPz
          have HN := Lib.hid hN
          have hN2 : N ≤ 20000 := by rw [← hN]; have := blocksN_spec n; have := (zerosN_spec n).2; omega
          clear hN
          have B2 := Blk.new wr 376 initU.row
          have HB0 : Hid (Blk (wr.alloc (.cells initU.row 376)) w.heap.size 361 zero16) := (A0.upd HU.out (by simp)).alloc _
          have HU3 : Hid (Upd [] w1 (wr.alloc (.cells initU.row 376))) := HU.out.alloc _
          have hgs : w.heap.size < wr.heap.size := by omega
          clear HO HIN HU hsz A0
          go_wp2_with fail
          have hrow : #[Value.int IntKind.u32 1732584193, Value.int IntKind.u32 4023233417, Value.int IntKind.u32 2562383102, Value.int IntKind.u32 271733878] = initU.row := rfl
          rw [hrow]
          generalize wr.alloc (.cells initU.row 376) = w2 at *
          generalize wr.heap.size = gs at *
          go_loopg [0] N (fun m s0 wx => ∃ (k : Nat), k + m = N ∧ s0 = .string (Pd.extract (64 * k) Pd.size) ∧ Blk wx gs 376 (blocksU Pd k).row ∧ Upd [gs] w2 wx)
          case atStart => exact ⟨0, by omega, by rw [Nat.mul_zero, ByteArray.extract_zero_size], B2, Upd.refl _ _⟩
          case round =>
            clear B2
            obtain ⟨k, hk, rfl, hB, hu⟩ := hrel
            obtain ⟨S, hS⟩ : ∃ S, Pd.extract (64 * k) Pd.size = S := ⟨_, rfl⟩
            have hSz : S.size = 64 * (N - k) := by rw [← hS, ByteArray.size_extract, HPz]; omega
            rw [hS]
            by_cases t : k < N
            · have e0 := str_empty_f (s := S) (by omega)
              have HS := Lib.hid hS
              have HSS : Hid (∀ i, i < 64 → S.data[i]? = Pd.data[64 * k + i]?) := by
                intro i hi
                rw [← hS, ByteArray.data_extract, Array.getElem?_extract, if_pos]
                have : Pd.data.size = Pd.size := rfl
                omega
              have HX : Hid (S.extract 64 (64 * (N - k)) = Pd.extract (64 * (k + 1)) Pd.size) := by
                show _ = _
                rw [← hS, ByteArray.extract_extract]
                congr 1
                omega
              have HW := Lib.hid (digWords_any Pd (64 * k) S (by simp only [maxLen]; omega) (by omega) HSS.out)
              generalize hws : wordsU Pd (64 * k) 64 = ws at *
              obtain ⟨s, hs⟩ : ∃ s, blocksU Pd k = s := ⟨_, rfl⟩
              have HQ : Hid (blocksU Pd (k + 1) = onU s ws) := by show _ = _; rw [blocksU, hs, hws]
              rw [hs] at hB
              have HON := Lib.hid (on_any s ws)
              have HUU := Lib.hid hu
              obtain ⟨s', hs'⟩ : ∃ s', onU s ws = s' := ⟨_, rfl⟩
              rw [hs'] at HON HQ
              have HB := Lib.hid hB
              clear hS hs hws hs' hB hu HSS
              go_wp2_with fail
              refine wp_region_chain [some (.agg s.row), some (.string S), some (.agg (uRow ws 16)), some (.agg s'.row), none] [4] (dgA wr gs 376 s'.row) [(0, 0), (0, 0), (0, 0), (0, 0), (0, 0)] (by kernel_rfl) (by kernel_rfl) (by kernel_rfl) (by kernel_rfl) (by kernel_rfl) (by kernel_rfl) ((Upd.refl _ _).drew) ?_ ?_
              · refine StepsC.cons ?_ (StepsC.cons ?_ (StepsC.cons ?_ (StepsC.cons ?_ (StepsC.cons ?_ StepsC.nil))))
                · refine chain_is _ (.inl rfl) ⟨_, rfl⟩ (by kernel_rfl) rfl ?_
                  intro a W kst l0 h0 A0 hF hD
                  have k0 : kst = 0 := Nat.le_antisymm h0 l0
                  subst k0
                  clear l0 h0
                  have e6 : a.tmps[6]?.getD undef = _ := (ev a 6).symm.trans (hF 6 (by kernel_rfl))
                  clear hF hD
                  have hu : Upd [] wr W := A0
                  have hb := HB.out.upd hu (by simp)
                  have c0 := hb.cell 0
                  have c1 := hb.cell 1
                  have c2 := hb.cell 2
                  have c3 := hb.cell 3
                  simp [Q4.row] at c0 c1 c2 c3
                  simp only [Q4.row]
                  go_simp
                · refine chain_is _ (.inl rfl) ⟨_, rfl⟩ (by kernel_rfl) rfl ?_
                  intro a W kst l0 h0 A0 hF hD
                  have k0 : kst = 0 := Nat.le_antisymm h0 l0
                  subst k0
                  clear l0 h0
                  have e0 : a.tmps[0]?.getD undef = _ := (ev a 0).symm.trans (hF 0 (by kernel_rfl))
                  clear hF hD
                  go_simp
                · refine chain_beside _ (.inl rfl) ⟨_, rfl⟩ (by kernel_rfl) rfl ?_
                  intro a W kst l0 h0 A0 hF hD
                  have k0 : kst = 0 := Nat.le_antisymm h0 l0
                  subst k0
                  clear l0 h0
                  have e46 : a.tmps[46]?.getD undef = .string S := (ev a 46).symm.trans (hD _ (Array.mem_of_getElem? (i := 0) rfl) rfl)
                  clear hF hD
                  have hu : Upd [] wr W := A0
                  refine ⟨_, _, by (go_simp; first | done | rfl | exact ⟨rfl, rfl⟩), ?_⟩
                  refine (HW.out _).mono ?_
                  rintro e wq ⟨rfl, hu2⟩
                  exact ⟨rfl, hu.trans hu2⟩
                · refine chain_beside _ (.inl rfl) ⟨_, rfl⟩ (by kernel_rfl) rfl ?_
                  intro a W kst l0 h0 A0 hF hD
                  have k0 : kst = 0 := Nat.le_antisymm h0 l0
                  subst k0
                  clear l0 h0
                  have e45 : a.tmps[45]?.getD undef = .agg s.row := (ev a 45).symm.trans (hD _ (Array.mem_of_getElem? (i := 0) rfl) rfl)
                  have e47 : a.tmps[47]?.getD undef = .agg (uRow ws 16) := (ev a 47).symm.trans (hD _ (Array.mem_of_getElem? (i := 1) rfl) rfl)
                  clear hF hD
                  have hu : Upd [] wr W := A0
                  refine ⟨_, _, by (go_simp; first | done | rfl | exact ⟨rfl, rfl⟩), ?_⟩
                  refine (HON.out _).mono ?_
                  rintro e wq ⟨rfl, hu2⟩
                  exact ⟨rfl, hu.trans hu2⟩
                · refine chain_set (.inl rfl) rfl (by kernel_rfl) trivial ?_
                  intro a W kst l0 h0 A0 hF hD
                  have k0 : kst = 0 := Nat.le_antisymm h0 l0
                  subst k0
                  clear l0 h0
                  have e48 : a.tmps[48]?.getD undef = .agg s'.row := (ev a 48).symm.trans (hD _ (Array.mem_of_getElem? (i := 0) rfl) rfl)
                  have e6 : a.tmps[6]?.getD undef = _ := (ev a 6).symm.trans (hF 6 (by kernel_rfl))
                  clear hF hD
                  have hu : Upd [] wr W := A0
                  have hb := HB.out.upd hu (by simp)
                  have c0 := hb.cell 0
                  have c1 := hb.cell 1
                  have c2 := hb.cell 2
                  have c3 := hb.cell 3
                  have f0 := hb.frozen 0
                  have f1 := hb.frozen 1
                  have f2 := hb.frozen 2
                  have f3 := hb.frozen 3
                  simp [Q4.row] at c0 c1 c2 c3
                  simp only [Q4.row] at e48
                  refine ⟨_, by (go_simp; first | done | rfl | exact ⟨rfl, rfl⟩), ?_, (((hb.set_ 0 (.int .u32 s'.a.toNat)).set_ 1 (.int .u32 s'.b.toNat)).set_ 2 (.int .u32 s'.c.toNat)).set_ 3 (.int .u32 s'.d.toNat)⟩
                  exact ((((Upd.mono (F := []) hu (by simp)).setCell _ (.inl (by simp))).setCell _ (.inl (by simp))).setCell _ (.inl (by simp))).setCell _ (.inl (by simp))
              intro vals W hv hA
              have v0 : vals 0 = .agg s.row := hv 0 (by decide)
              have v1 : vals 1 = .string S := hv 1 (by decide)
              have v2 : vals 2 = .agg (uRow ws 16) := hv 2 (by decide)
              have v3 : vals 3 = .agg s'.row := hv 3 (by decide)
              clear hv
              obtain ⟨hu, hB⟩ := hA
              simp only [putAll, Act.put, Nat.zero_add, Nat.reduceAdd, v0, v1, v2, v3, List.setIfInBounds_toArray, List.set_cons_zero, List.set_cons_succ]
              clear v0 v1 v2 v3
              have HB2 := Lib.hid hB
              have HU2 := Lib.hid hu
              clear hB hu
              go_wp2_with fail
              go_roundg (N - (k + 1))
              case rel => exact ⟨k + 1, by omega, by rw [← HX.out], by rw [HQ.out]; exact HB2.out, HUU.out.trans HU2.out⟩
              case measure => omega
            · obtain rfl : k = N := by omega
              have e0 := str_empty_t (s := S) (by omega)
              have HB := Lib.hid hB
              have HR : Hid (Blk wr w.heap.size 361 zero16) := HB0.out.upd hu (by simp; omega)
              have HU4 : Hid (Upd [] w wr) := (U0.trans HU3.out).trans' hu (fun x hx => .inr (by simp at hx; omega))
              have hlt : gs < wr.heap.size := hB.lt
              have hgl : w.heap.size < wr.heap.size := by omega
              have B3 := Blk.new wr 361 zero16
              have HB4 : Hid (Blk (wr.alloc (.cells zero16 361)) gs 376 (blocksU Pd k).row) := hB.alloc _
              have HR4 : Hid (Blk (wr.alloc (.cells zero16 361)) w.heap.size 361 zero16) := HR.out.alloc _
              have HU5 : Hid (Upd [] w (wr.alloc (.cells zero16 361))) := HU4.out.alloc _
              have HG : Hid (∀ i, md5At b i = ((blocksU Pd k).get (i / 4)).toNat / 2 ^ (8 * (i % 4)) % 256) := by
                intro i
                rw [md5At, hn, HN.out, HP.out]
              generalize blocksU Pd k = st at *
              clear hB hu HB HR HU4 HB0 HU3 HP HZ HZ2 HN
              go_wp2_with fail
              rw [show (#[Value.int .u8 0, Value.int .u8 0, Value.int .u8 0, Value.int .u8 0, Value.int .u8 0, Value.int .u8 0, Value.int .u8 0, Value.int .u8 0, Value.int .u8 0, Value.int .u8 0, Value.int .u8 0, Value.int .u8 0, Value.int .u8 0, Value.int .u8 0, Value.int .u8 0, Value.int .u8 0] : Array Value) = zero16 from rfl]
              generalize wr.alloc (.cells zero16 361) = w3 at *
              generalize wr.heap.size = go at *
              go_loopg [49] 16 (fun m s49 wx => ∃ (j : Nat), j + m = 16 ∧ s49 = .int .i64 j ∧ Blk wx go 361 (mdRow b j) ∧ Upd [go] w3 wx)
              case atStart => exact ⟨0, rfl, rfl, B3, Upd.refl _ _⟩
              case round =>
                clear B3
                obtain ⟨j, hj, rfl, hB, hu⟩ := hrel
                by_cases t : j < 16
                · have cst : wr.cell? ⟨gs, j / 4, none⟩ = some (.int .u32 (st.get (j / 4)).toNat) := by
                    rw [(HB4.out.upd hu (by simp; omega)).cell]
                    have : j / 4 = 0 ∨ j / 4 = 1 ∨ j / 4 = 2 ∨ j / 4 = 3 := by omega
                    rcases this with h | h | h | h <;> rw [h] <;> rfl
                  have fo := hB.frozen j
                  have co : wr.cell? ⟨go, j, none⟩ = some (.int .u8 0) := by
                    rw [hB.cell, mdRow_get _ _ _ t, if_neg (by omega)]
                  have HE : Hid (((st.get (j / 4)).toNat : Int) / 2 ^ (8 * (j % 4)) % 256 = (md5At b j : Nat)) := by
                    show _ = _
                    rw [HG.out]
                    all_goals norm_cast
                  have hst := (st.get (j / 4)).isLt
                  generalize st.get (j / 4) = sj at *
                  have HB := Lib.hid hB
                  have HU := Lib.hid hu
                  clear hB hu
                  go_wp2_with fail
                  go_roundg (16 - (j + 1))
                  case rel =>
                    refine ⟨j + 1, by omega, by go_num, ?_, HU.out.setCell _ (.inl (by simp))⟩
                    rw [HE.out]
                    exact (HB.out.set_ j _).of_eq (mdRow_set b j t)
                  case measure => omega
                · obtain rfl : j = 16 := by omega
                  have hR := HR4.out.upd hu (by simp; omega)
                  have hUU : Upd [] w wr := HU5.out.trans' hu (fun x hx => .inr (by simp at hx; omega))
                  go_upto_region 21 with (fail)
                  refine wp_region_lit ?_
                  refine wpList_load_row rfl _ _ rfl go rfl _ _ _ _ hB Tryz.underlying361 rfl (by kernel_rfl) ?_
                  refine wpList_store_row rfl _ _ _ rfl w.heap.size _ rfl rfl _ _ hR (by kernel_rfl) (by simp [mdRow, zero16]) (by simp [mdRow, Value.oneCell']) ?_
                  have hB2 := hR.row_ (mdRow b 16)
                  have hu2 := hUU.setRow' (.inr (Nat.le_refl _)) (mdRow b 16)
                  generalize wr.setRow w.heap.size (mdRow b 16) = W at *
                  simp only [Act.put, Nat.zero_add, Nat.reduceAdd, List.setIfInBounds_toArray, List.set_cons_zero, List.set_cons_succ]
                  go_wp2_with fail
                  exact bodyPost_ret (results_cell_row rfl _ _ w.heap.size _ _ _ _ rfl (hB2.of_eq (mdRow_all b)) Tryz.underlying361 rfl (by kernel_rfl)) rfl ⟨rfl, hu2⟩
end Go.Proofs.YtglafpdealjlnaaGreat
namespace Go.Proofs.YtglafpdealjlnaaGreat
open Go.RowKit
set_option linter.unusedSimpArgs false
set_option linter.unusedVariables false
set_option maxRecDepth 100000

/-- Byte j of a string, as a number. -/
def sb (s : ByteArray) (j : Nat) : Nat := ((s.data[j]?).getD 0).toNat
theorem sb_lt (s : ByteArray) (j : Nat) : sb s j < 256 := ((s.data[j]?).getD 0).toNat_lt
theorem bytesRow_get (s : ByteArray) (cap j : Nat) (h : j < s.size) : (bytesRow s cap)[j]? = some (.int .u8 (sb s j)) := by
  have h' : j < s.data.size := h
  simp only [bytesRow, sb, Array.getElem?_append, Array.size_map]
  rw [if_pos h', Array.getElem?_map, Array.getElem?_eq_getElem h']
  rfl
theorem bytes_of_string (s : ByteArray) (W : World) : ∃ cap w', (convert 9 151 (.string s)).run Tryz.prog W = .ok (.slice (some ⟨W.heap.size, 0, none⟩) s.size cap) w' ∧ s.size ≤ cap ∧
    (∀ j, j < s.size → w'.cell? ⟨W.heap.size, j, none⟩ = some (.int .u8 (sb s j))) ∧ (∀ j, j < s.size → w'.frozen? ⟨W.heap.size, j, none⟩ = false) ∧ Upd [] W w' ∧ W.heap.size < w'.heap.size := by
  refine ⟨_, _, run_bytes_of_string W 9 151 5 s Tryz.underlying9 Tryz.underlying151 Tryz.underlying5, ?_, fun j hj => ?_, fun j hj => ?_, ((Upd.refl _ _).drew).alloc _, by simp⟩
  · exact grownCap_ge _ _ _ _
  · have h := heap_alloc_new W.drew (Obj.cells (bytesRow s (grownCap W s.size 0 5)) 5 ((bytesRow s (grownCap W s.size 0 5)).size, (bytesRow s (grownCap W s.size 0 5)).size + 1))
    rw [show W.drew.heap.size = W.heap.size from rfl] at h
    rw [cell_of_row _ _ j _ _ _ h, bytesRow_get _ _ _ hj]
  · have h := heap_alloc_new W.drew (Obj.cells (bytesRow s (grownCap W s.size 0 5)) 5 ((bytesRow s (grownCap W s.size 0 5)).size, (bytesRow s (grownCap W s.size 0 5)).size + 1))
    rw [show W.drew.heap.size = W.heap.size from rfl] at h
    have hz : s.size ≤ (bytesRow s (grownCap W s.size 0 5)).size := by
      show s.size ≤ (_ ++ _ : Array Value).size
      rw [Array.size_append, Array.size_map]
      exact Nat.le_add_right _ _
    unfold World.frozen?
    rw [h]
    simp
    omega

theorem xorB_eq (s d : ByteArray) : xorB s d = strOfNums ((List.range s.size).map fun i => ((sb s i ^^^ md5At d i : Nat) : Int)) := rfl
theorem xor_u8 (x y : Nat) (hx : x < 256) (hy : y < 256) : bits .xor .u8 (x : Int) (y : Int) = ((x ^^^ y : Nat) : Int) := by
  show IntKind.u8.wrap ((BitVec.ofInt 8 (x : Int) ^^^ BitVec.ofInt 8 (y : Int)).toNat : Nat) = _
  rw [BitVec.ofInt_natCast, BitVec.ofInt_natCast, BitVec.toNat_xor, BitVec.toNat_ofNat, BitVec.toNat_ofNat, Nat.mod_eq_of_lt (by simpa using hx), Nat.mod_eq_of_lt (by simpa using hy)]
  have := xor_lt256 hx hy
  generalize x ^^^ y = z at this
  simp [IntKind.wrap, IntKind.bits, IntKind.signed]
  omega

set_option maxHeartbeats 4000000 in
theorem masked_any (un : Bool) (f : Nat) (hcf : ∀ x y W, (callFunc f #[x, y]).run Tryz.prog W = .ok (.enter f #[x, y]) W)
    (hf : ∀ i o W, Calls Tryz.prog f #[.string i, .string o] W fun e w' => e = .returned (.string (if un = true then i else o)) ∧ W = w')
    (kind : Int) (secret vector v : ByteArray) (hk : 0 ≤ kind ∧ kind < 65536) (hs : secret.size ≤ 400000) (hvz : vector.size ≤ 400000) (hv : v.size ≤ 400000) (w : World) :
    Calls Tryz.prog 325 #[.int .i64 kind, .string secret, .string vector, .string v, .func (.func f) #[] #[]] w fun e w' => e = .returned (.string (maskB un kind secret vector v)) ∧ Upd [] w w' := by
  obtain ⟨M, hM⟩ : ∃ M, maskB un kind secret vector v = M := ⟨_, rfl⟩
  obtain ⟨K0, hK0⟩ : ∃ K0, keyB kind secret vector = K0 := ⟨_, rfl⟩
  have HM : Hid (maskL un secret v.size K0 v = M) := by show _ = _; rw [← hM, maskB, hK0]
  have hKz : K0.size = 2 + secret.size + vector.size := by rw [← hK0, keyB, ByteArray.size_append, ByteArray.size_append, strOfNums_size]; rfl
  have HMz : Hid (∀ l : Nat, True) := fun _ => trivial
  rw [hM]
  have hcv := str2 Tryz.underlying151 Tryz.underlying5 Tryz.underlying9 (Blk.new w 5 #[.int .u8 (kind / 256), .int .u8 (kind % 256)])
  have ha1 := run_string_add_sum (P := Tryz.prog) (w.alloc (.cells #[.int .u8 (kind / 256), .int .u8 (kind % 256)] 5)) (strOfNums [kind / 256, kind % 256]) secret (by rw [strOfNums_size]; simp; omega)
  have ha2 := run_string_add_sum (P := Tryz.prog) (w.alloc (.cells #[.int .u8 (kind / 256), .int .u8 (kind % 256)] 5)) (strOfNums [kind / 256, kind % 256] ++ secret) vector (by rw [ByteArray.size_append, strOfNums_size]; simp; omega)
  rw [show strOfNums [kind / 256, kind % 256] ++ secret ++ vector = K0 from hK0] at ha2
  have hU0 : Upd [] w (w.alloc (.cells #[.int .u8 (kind / 256), .int .u8 (kind % 256)] 5)) := (Upd.refl _ _).alloc _
  clear hM hK0
  go_enter Tryz.func325, Tryz.ntmps325
  go_wp2_with fail
  generalize w.alloc (.cells #[.int .u8 (kind / 256), .int .u8 (kind % 256)] 5) = w1 at *
  clear hcv ha1 ha2
  go_loopg [3, 11, 12] v.size (fun m s3 s11 s12 wr => ∃ r key out : ByteArray, s3 = .string r ∧ s11 = .string key ∧ s12 = .string out ∧ r.size = m ∧ r.size ≤ v.size ∧ key.size ≤ 900000 ∧ out.size + r.size = v.size ∧ out ++ maskL un secret r.size key r = M ∧ Upd [] w wr)
  case atStart => exact ⟨v, K0, ⟨#[]⟩, rfl, rfl, rfl, rfl, Nat.le_refl _, by omega, by show 0 + v.size = v.size; omega, by rw [HM.out]; exact ByteArray.empty_append, hU0⟩
  case round =>
    clear HM hKz
    obtain ⟨r, key, out, rfl, rfl, rfl, hrm, hrv, hkz, hor, hm, hu⟩ := hrel
    by_cases t : r.size = 0
    · have e0 := str_empty_t t
      have HM : Hid (out = M) := by
        show _ = _
        rw [← hm, t, maskL]
        exact ByteArray.append_empty.symm
      clear hm t
      go_wp2_with fail
      go_ret
      rw [HM.out]
      exact ⟨rfl, hu⟩
    · have e0 := str_empty_f t
      obtain ⟨m, hmm⟩ : ∃ m, min 16 r.size = m := ⟨_, rfl⟩
      have hm16 : m ≤ 16 := by omega
      have hmr : m ≤ r.size := by omega
      have hm0 : 0 < m := by omega
      have hmi : min (16 : Int) (r.size : Int) = (m : Int) := by omega
      obtain ⟨i, hi⟩ : ∃ i, r.extract 0 m = i := ⟨_, rfl⟩
      have hiz : i.size = m := by rw [← hi, ByteArray.size_extract]; omega
      obtain ⟨r2, hr2⟩ : ∃ r2, r.extract m r.size = r2 := ⟨_, rfl⟩
      have hr2z : r2.size = r.size - m := by rw [← hr2, ByteArray.size_extract]; omega
      obtain ⟨o, ho⟩ : ∃ o, xorB i key = o := ⟨_, rfl⟩
      have hoz : o.size = m := by rw [← ho, xorB_size, hiz]
      have HN : Hid (out ++ o ++ maskL un secret r2.size (secret ++ (if un = true then i else o)) r2 = M) := by
        show _ = _
        rw [← hm]
        obtain ⟨z, hz⟩ : ∃ z, r.size = z + 1 := ⟨r.size - 1, by omega⟩
        rw [hz, maskL, if_neg t, hmm, hi, hr2]
        dsimp only
        rw [ho, ByteArray.append_assoc, maskL_more un secret z r2.size _ _ (by omega) (Nat.le_refl _)]
      obtain ⟨nx, hnx⟩ : ∃ nx, (if un = true then i else o) = nx := ⟨_, rfl⟩
      have hnxz : nx.size ≤ 16 := by rw [← hnx]; split <;> omega
      rw [hnx] at HN
      have HO : Hid (o = strOfNums ((List.range m).map fun j => ((sb i j ^^^ md5At key j : Nat) : Int))) := by show _ = _; rw [← ho, xorB_eq, hiz]
      have HF := Lib.hid (hf i o)
      rw [hnx] at HF
      have HX := Lib.hid hr2
      have HI := Lib.hid hi
      have HU := Lib.hid hu
      have HMD := Lib.hid (md5_any key (by omega))
      rw [hrm] at hmi hr2
      clear hm hu hmm ho hnx
      go_wp2_with fail
      refine (HMD.out _).mono ?_
      rintro e w2 ⟨rfl, hu2⟩
      have HU2 := Lib.hid (HU.out.trans hu2)
      clear hu2
      have hst := run_storeCells_new (P := Tryz.prog) w2 361 #[Value.int .u8 0, Value.int .u8 0, Value.int .u8 0, Value.int .u8 0, Value.int .u8 0, Value.int .u8 0, Value.int .u8 0, Value.int .u8 0, Value.int .u8 0, Value.int .u8 0, Value.int .u8 0, Value.int .u8 0, Value.int .u8 0, Value.int .u8 0, Value.int .u8 0, Value.int .u8 0] (md5Row key) (by kernel_rfl) rfl (by simp [md5Row, Value.oneCell'])
      have B3 := Blk.new w2 361 (md5Row key)
      have HU3 := Lib.hid (HU2.out.alloc (Obj.cells (md5Row key) 361))
      obtain ⟨cap, w4, hconv, hcap, hcc, hff, hu4, hlt⟩ := bytes_of_string i (w2.alloc (Obj.cells (md5Row key) 361))
      rw [World.size_alloc] at hconv hcc hff hlt
      rw [hiz] at hcc hff hconv hcap
      have B4 := Lib.hid (B3.upd hu4 (by simp))
      have HU4 := Lib.hid (HU3.out.trans hu4)
      have HCC := Lib.hid hcc
      have HFF := Lib.hid hff
      have hws := HU2.out.size
      clear B3 hu4 hcc hff
      go_wp2_with fail
      clear hconv hst
      go_loopg [45] m (fun p s45 wx => ∃ j : Nat, j + p = m ∧ s45 = .int .i64 j ∧ (∀ q, q < m → wx.cell? ⟨w2.heap.size + 1, q, none⟩ = some (.int .u8 ((if q < j then sb i q ^^^ md5At key q else sb i q : Nat) : Int))) ∧ (∀ q, q < m → wx.frozen? ⟨w2.heap.size + 1, q, none⟩ = false) ∧ Upd [w2.heap.size + 1] w4 wx)
      case atStart => exact ⟨0, by omega, rfl, fun q hq => by rw [HCC.out q hq, if_neg (by omega)], HFF.out, Upd.refl _ _⟩
      case round =>
        clear HCC HFF
        obtain ⟨j, hj, rfl, hcc, hff, hu⟩ := hrel
        by_cases t : j < m
        · have c0 := hcc j t
          rw [if_neg (by omega)] at c0
          have f0 := hff j t
          have d0 : wr.cell? ⟨w2.heap.size, j, none⟩ = some (.int .u8 (md5At key j)) := by
            rw [(B4.out.upd hu (by simp)).cell]
            simp [md5Row, show j < 16 by omega]
          have hx := xor_u8 (sb i j) (md5At key j) (sb_lt i j) (md5At_lt key j)
          have HCC := Lib.hid hcc
          have HFF := Lib.hid hff
          have HUU := Lib.hid hu
          clear hcc hff hu
          obtain ⟨x, hxx⟩ : ∃ x, sb i j ^^^ md5At key j = x := ⟨_, rfl⟩
          rw [hxx] at hx
          have HXX := Lib.hid hxx
          clear hxx
          go_wp2_with fail
          go_region
          have hcc' : ∀ q, q < m → ((wr.setCell ⟨w2.heap.size + 1, j, none⟩ (.int .u8 (x : Int))).drew).cell? ⟨w2.heap.size + 1, q, none⟩ = some (.int .u8 ((if q < j + 1 then sb i q ^^^ md5At key q else sb i q : Nat) : Int)) := by
            intro q hq
            show (wr.setCell ⟨w2.heap.size + 1, j, none⟩ (.int .u8 (x : Int))).cell? _ = _
            by_cases hqj : q = j
            · subst hqj
              rw [World.cell?_setCell_same _ _ _ c0, if_pos (by omega), HXX.out]
            · rw [World.cell?_setCell_other _ _ _ _ (fun e => hqj (by cases e; rfl)), HCC.out q hq]
              by_cases h3 : q < j
              · rw [if_pos h3, if_pos (by omega)]
              · rw [if_neg h3, if_neg (by omega)]
          have hff' : ∀ q, q < m → ((wr.setCell ⟨w2.heap.size + 1, j, none⟩ (.int .u8 (x : Int))).drew).frozen? ⟨w2.heap.size + 1, q, none⟩ = false := by
            intro q hq
            show (wr.setCell ⟨w2.heap.size + 1, j, none⟩ (.int .u8 (x : Int))).frozen? _ = _
            rw [World.frozen?_setCell, HFF.out q hq]
          have hu' : Upd [w2.heap.size + 1] w4 ((wr.setCell ⟨w2.heap.size + 1, j, none⟩ (.int .u8 (x : Int))).drew) := (HUU.out.setCell _ (.inl (by simp))).drew
          clear c0 f0 d0 hx
          generalize (wr.setCell ⟨w2.heap.size + 1, j, none⟩ (.int .u8 (x : Int))).drew = W at *
          go_wp2_with fail
          go_roundg (m - (j + 1))
          case rel => exact ⟨j + 1, by omega, by go_num, hcc', hff', hu'⟩
          case measure => omega
        · obtain rfl : j = m := by omega
          have HUU : Hid (Upd [] w wr) := HU4.out.trans' hu (fun x hx => .inr (by simp at hx; omega))
          have hcv2 := run_convert_bytes_arg wr 151 5 Tryz.underlying151 Tryz.underlying5 (w2.heap.size + 1) 0 j cap ((List.range j).map fun q => ((sb i q ^^^ md5At key q : Nat) : Int)) (by simp)
            (fun q hq => by rw [Nat.zero_add, hcc q hq, if_pos hq]; simp [hq]) 9 Tryz.underlying9
          rw [← HO.out] at hcv2
          have ha1 := run_string_add_sum (P := Tryz.prog) wr out o (by omega)
          have ha2 := run_string_add_sum (P := Tryz.prog) wr secret nx (by omega)
          have hcall := hcf (.string i) (.string o)
          clear hcc hff hu
          go_wp2_with fail
          refine (HF.out _).mono ?_
          rintro e w5 ⟨rfl, rfl⟩
          go_wp2_with fail
          go_roundg (r.size - j)
          case rel => exact ⟨r2, secret ++ nx, out ++ o, rfl, rfl, rfl, by omega, by omega, by rw [ByteArray.size_append]; omega, by rw [ByteArray.size_append]; omega, HN.out, HUU.out⟩
          case measure => omega

set_option maxHeartbeats 400000 in
theorem mask1_any (i o : ByteArray) (w : World) : Calls Tryz.prog 326 #[.string i, .string o] w fun e w' => e = .returned (.string o) ∧ w = w' := by
  go_enter Tryz.func326, Tryz.ntmps326
  go_wp2_with fail
  go_ret
  exact ⟨rfl, rfl⟩
set_option maxHeartbeats 400000 in
theorem unmask1_any (i o : ByteArray) (w : World) : Calls Tryz.prog 336 #[.string i, .string o] w fun e w' => e = .returned (.string i) ∧ w = w' := by
  go_enter Tryz.func336, Tryz.ntmps336
  go_wp2_with fail
  go_ret
  exact ⟨rfl, rfl⟩
set_option maxHeartbeats 400000 in
theorem mask_any (kind : Int) (secret vector v : ByteArray) (hk : 0 ≤ kind ∧ kind < 65536) (hs : secret.size ≤ 400000) (hvz : vector.size ≤ 400000) (hv : v.size ≤ 400000) (w : World) :
    Calls Tryz.prog 303 #[.int .i64 kind, .string secret, .string vector, .string v] w fun e w' => e = .returned (.string (maskB false kind secret vector v)) ∧ Upd [] w w' := by
  have H := Lib.hid (masked_any false 326 (fun _ _ _ => by kernel_rfl) (fun i o W => by simpa using mask1_any i o W) kind secret vector v hk hs hvz hv)
  generalize maskB false kind secret vector v = r at *
  clear hk hs hvz hv
  go_enter Tryz.func303, Tryz.ntmps303
  go_wp2_with fail
  refine (H.out _).mono ?_
  rintro e w5 ⟨rfl, hu⟩
  go_wp2_with fail
  go_ret
  exact ⟨rfl, hu⟩
set_option maxHeartbeats 400000 in
theorem unmask_any (kind : Int) (secret vector v : ByteArray) (hk : 0 ≤ kind ∧ kind < 65536) (hs : secret.size ≤ 400000) (hvz : vector.size ≤ 400000) (hv : v.size ≤ 400000) (w : World) :
    Calls Tryz.prog 328 #[.int .i64 kind, .string secret, .string vector, .string v] w fun e w' => e = .returned (.string (maskB true kind secret vector v)) ∧ Upd [] w w' := by
  have H := Lib.hid (masked_any true 336 (fun _ _ _ => by kernel_rfl) (fun i o W => by simpa using unmask1_any i o W) kind secret vector v hk hs hvz hv)
  generalize maskB true kind secret vector v = r at *
  clear hk hs hvz hv
  go_enter Tryz.func328, Tryz.ntmps328
  go_wp2_with fail
  refine (H.out _).mono ?_
  rintro e w5 ⟨rfl, hu⟩
  go_wp2_with fail
  go_ret
  exact ⟨rfl, hu⟩
end Go.Proofs.YtglafpdealjlnaaGreat
