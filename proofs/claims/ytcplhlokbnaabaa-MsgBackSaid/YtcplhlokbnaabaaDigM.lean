/- The walk of digest.Md5. -/
import Derived.Test.YtcplhlokbnaabaaDigC
import Derived.Test.YtcplhlokbnaabaaStr
import Derived.Test.YtcplhlokbnaabaaRes2
namespace Go.Proofs.Ytcplhlokbnaabaa
open Go.RowKit
set_option linter.unusedSimpArgs false
set_option linter.unusedVariables false
set_option maxRecDepth 20000

def u8s (l : List Int) : List Value := l.map (Value.int .u8)
theorem u8s_snoc (l : List Int) (x : Int) : u8s (l ++ [x]) = u8s l ++ [.int .u8 x] := by simp [u8s]
theorem Own.str {w : World} {g off n cap : Nat} {l : List Int} {own : List Nat} (h : Own w 5 1 (.slice (some ⟨g, off, none⟩) n cap) n (u8s l) own) :
    (convert 69 9 (.slice (some ⟨g, off, none⟩) n cap)).run Try.prog w = .ok (.string (strOfNums l)) w := by
  have hl : l.length = n := by have := h.1; simpa [u8s] using this
  refine run_convert_bytes_arg w 69 5 Try.underlying69 Try.underlying5 g off n cap l hl ?_ 9 Try.underlying9
  intro i hi
  obtain ⟨g', off', cap', hv', _, _, _, h5⟩ := h.form (by omega)
  injection hv' with e1 e2 e3
  injection e1 with e1
  injection e1 with e1 e4
  subst e1 e4
  rw [h5 i (.int .u8 (l.getD i 0))]
  simp [u8s, show i < l.length by omega]

/-- One block is stored whole, by the last operation. -/
def dgA (w0 : World) (g : Nat) (t : TypeId) (row : Array Value) : List Value → World → Prop
  | [], W => Upd [] w0 W
  | _ :: _, W => Upd [g] w0 W ∧ Blk W g t row
def md5Row (b : ByteArray) : Array Value := ((List.range 16).map fun i => Value.int .u8 (md5At b i)).toArray
def mdRow (b : ByteArray) (k : Nat) : Array Value := ((List.range 16).map fun i => Value.int .u8 (if i < k then (md5At b i : Int) else 0)).toArray
theorem mdRow_get (b : ByteArray) (k j : Nat) (h : j < 16) : (mdRow b k)[j]? = some (Value.int .u8 (if j < k then (md5At b j : Int) else 0)) := by simp [mdRow, h]
theorem mdRow_set (b : ByteArray) (k : Nat) (h : k < 16) : (mdRow b k).setIfInBounds k (.int .u8 (md5At b k)) = mdRow b (k + 1) := by
  have hz : ∀ k, (mdRow b k).size = 16 := fun k => by simp [mdRow]
  apply Array.ext_getElem?
  intro i
  rw [Array.getElem?_setIfInBounds]
  by_cases hk : k = i
  · subst hk
    rw [if_pos rfl, if_pos (by rw [hz]; exact h), mdRow_get _ _ _ h, if_pos (by omega)]
  · rw [if_neg hk]
    by_cases h2 : i < 16
    · rw [mdRow_get _ _ _ h2, mdRow_get _ _ _ h2]
      by_cases h3 : i < k
      · rw [if_pos h3, if_pos (by omega)]
      · rw [if_neg h3, if_neg (by omega)]
    · rw [Array.getElem?_eq_none (by rw [hz]; omega), Array.getElem?_eq_none (by rw [hz]; omega)]
theorem mdRow_all (b : ByteArray) : mdRow b 16 = md5Row b := by
  unfold mdRow md5Row
  congr 1
def zero16 : Array Value := ((List.range 16).map fun i => Value.int .u8 0).toArray

set_option maxHeartbeats 4000000 in
theorem md5_any (b : ByteArray) (hb : b.size ≤ 1000000) (w : World) :
    Calls Try.prog 63 #[.string b] w fun e w' => e = .returned (.agg (md5Row b)) ∧ Upd [] w w' := by
  obtain ⟨i0, hi, hz0, hz1, hz2⟩ := info_parts info_u8
  obtain ⟨n, hn⟩ : ∃ n, b.size = n := ⟨_, rfl⟩
  rw [hn] at hb
  have A0 : Blk (w.alloc (Obj.cells zero16 107)) w.heap.size 107 zero16 := Blk.new _ _ _
  have U0 : Upd [] w (w.alloc (Obj.cells zero16 107)) := (Upd.refl _ _).alloc _
  go_enter Try.func63, Try.ntmps63
  go_upto_region 1 with (fail)
  have hw1 : (w.alloc (Obj.cells zero16 107)).heap.size = w.heap.size + 1 := by simp
  generalize hw1' : w.alloc (Obj.cells zero16 107) = w1 at *
  rw [show w.alloc (Obj.cells #[Value.int .u8 0, Value.int .u8 0, Value.int .u8 0, Value.int .u8 0, Value.int .u8 0, Value.int .u8 0, Value.int .u8 0, Value.int .u8 0, Value.int .u8 0, Value.int .u8 0, Value.int .u8 0, Value.int .u8 0, Value.int .u8 0, Value.int .u8 0, Value.int .u8 0, Value.int .u8 0] 107) = w1 from hw1']
  clear hw1'
  go_wp2_with fail
  go_loopg [3] (zerosN n) (fun m s3 wr => ∃ (k g off cap : Nat) (own : List Nat), k + m = zerosN n ∧ s3 = .slice (some ⟨g, off, none⟩) (k + 1) cap ∧ Own wr 5 1 (.slice (some ⟨g, off, none⟩) (k + 1) cap) (k + 1) (u8s (128 :: List.replicate k 0)) own ∧ (∀ j, j ∈ own → w.heap.size + 1 ≤ j) ∧ Upd [] w1 wr)
  case atStart => exact ⟨0, _, 0, 1, _, by omega, rfl, (by have := Own.one_new w1 5 (.int .u8 128); rw [hw1] at this; exact this), by simp, (Upd.refl _ _).alloc _⟩
  case round =>
    obtain ⟨k, g, off, cap, own, hk, rfl, hown, hin, hu⟩ := hrel
    have hz := zerosN_spec n
    have HO := Lib.hid hown
    have HIN := Lib.hid hin
    have HU := Lib.hid hu
    have hsz : w1.heap.size ≤ wr.heap.size := hu.size
    clear hown hin hu
    by_cases t : k < zerosN n
    · have q1 := zerosN_least n k t
      have q2 : ((n : Int) + (k + 1)) % 64 ≠ 56 := by omega
      have hk64 : k < 64 := by omega
      clear q1
      go_wp2_with (at_builtin; refine wpList_append_Own _ rfl (.tmp 17) (.tmp 18) 69 rfl 5 i0 _ 1 1 Try.underlying69 hi hz0 hz1 hz2 rfl (by decide) (.slice (some ⟨g, off, none⟩) (k + 1) cap) (k + 1) (u8s (128 :: List.replicate k 0)) own (by simp [Act.eval]) (Own.alloc _ HO.out) ⟨wr.heap.size, 0, none⟩ 1 1 [.int .u8 0] (by simp [Act.eval]) rfl (World.news_of_block (Blk.new _ _ _)) (by simp [Value.oneCell']) (by decide) (by simp only [maxLen]; omega) (by omega) ?_; intro g2 off2 cap2 w2 ow2 ho2 hin2 hu2; have HO2 := Lib.hid ho2; have HIN2 := Lib.hid hin2; have HU2 := Lib.hid hu2; clear ho2 hin2 hu2)
      go_roundg (zerosN n - (k + 1))
      case rel =>
        refine ⟨k + 1, g2, off2, cap2, ow2, by omega, rfl, ?_, fun j hj => ?_, (HU.out.alloc _).trans' HU2.out (fun x hx => .inr (by rw [hw1]; exact HIN.out x hx))⟩
        · rw [List.replicate_succ', ← List.cons_append, u8s_snoc]; exact HO2.out
        · rcases HIN2.out j hj with h | h
          · exact HIN.out j h
          · simp at h; omega
      case measure => omega
    · obtain rfl : k = zerosN n := by omega
      have q2 : ((n : Int) + (zerosN n + 1)) % 64 = 56 := by omega
      go_wp2_with fail
      obtain ⟨z, hz'⟩ : ∃ z, zerosN n = z := ⟨_, rfl⟩
      rw [hz'] at HO hz q2 ⊢
      have HZ := Lib.hid hz'
      have HZ2 := Lib.hid hz
      have hz64 : z < 64 := hz.2
      clear hz hz' q2
      go_loopg [3, 24] 8 (fun m s3 s24 wr => ∃ (k g off cap : Nat) (own : List Nat), k + m = 8 ∧ s24 = .int .i64 k ∧ s3 = .slice (some ⟨g, off, none⟩) (z + 1 + k) cap ∧ Own wr 5 1 (.slice (some ⟨g, off, none⟩) (z + 1 + k) cap) (z + 1 + k) (u8s (128 :: List.replicate z 0 ++ (List.range k).map (fun i => ((n * 8 / 256 ^ i % 256 : Nat) : Int)))) own ∧ (∀ j, j ∈ own → w.heap.size + 1 ≤ j) ∧ Upd [] w1 wr)
      case atStart => exact ⟨0, g, off, cap, own, rfl, rfl, rfl, by simpa using HO.out, HIN.out, HU.out⟩
      case round =>
        clear HO HIN HU hsz
        obtain ⟨k, g, off, cap, own, hk, rfl, rfl, hown, hin, hu⟩ := hrel
        have HO := Lib.hid hown
        have HIN := Lib.hid hin
        have HU := Lib.hid hu
        have hsz : w1.heap.size ≤ wr.heap.size := hu.size
        clear hown hin hu
        by_cases t : k < 8
        · have HE : Hid ((n : Int) * 8 / 2 ^ (8 * k) % 256 = ((n * 8 / 256 ^ k % 256 : Nat) : Int)) := by
            show _ = _
            rw [show (2 : Int) ^ (8 * k) = ((256 ^ k : Nat) : Int) by rw [Int.pow_mul]; norm_cast]
            norm_cast
          go_wp2_with (at_builtin; refine wpList_append_Own _ rfl (.tmp 27) (.tmp 33) 69 rfl 5 i0 _ 1 1 Try.underlying69 hi hz0 hz1 hz2 rfl (by decide) (.slice (some ⟨g, off, none⟩) (z + 1 + k) cap) (z + 1 + k) (u8s (128 :: List.replicate z 0 ++ (List.range k).map (fun i => ((n * 8 / 256 ^ i % 256 : Nat) : Int)))) own (by simp [Act.eval]) (Own.alloc _ HO.out) ⟨wr.heap.size, 0, none⟩ 1 1 [.int .u8 ((n : Int) * 8 / 2 ^ (8 * k) % 256)] (by simp [Act.eval]) rfl (World.news_of_block (Blk.new _ _ _)) (by simp [Value.oneCell']) (by decide) (by simp only [maxLen]; omega) (by omega) ?_; intro g2 off2 cap2 w2 ow2 ho2 hin2 hu2; have HO2 := Lib.hid ho2; have HIN2 := Lib.hid hin2; have HU2 := Lib.hid hu2; clear ho2 hin2 hu2)
          go_roundg (8 - (k + 1))
          case rel =>
            refine ⟨k + 1, g2, off2, cap2, ow2, by omega, by go_num, rfl, ?_, fun j hj => ?_, (HU.out.alloc _).trans' HU2.out (fun x hx => .inr (by rw [hw1]; exact HIN.out x hx))⟩
            · rw [List.range_succ, List.map_append, ← List.append_assoc, List.map_singleton, u8s_snoc, ← HE.out]; exact HO2.out
            · rcases HIN2.out j hj with h | h
              · exact HIN.out j h
              · simp at h; omega
          case measure => omega
        · obtain rfl : k = 8 := by omega
          have hcv := HO.out.str
          obtain ⟨T, hT⟩ : ∃ T, strOfNums (128 :: List.replicate z 0 ++ (List.range 8).map (fun i => ((n * 8 / 256 ^ i % 256 : Nat) : Int))) = T := ⟨_, rfl⟩
          rw [hT] at hcv
          have hTz : T.size = 9 + z := by rw [← hT, strOfNums_size]; simp; omega
          have hadd := run_string_add_sum (P := Try.prog) wr b T (by rw [hn, hTz]; omega)
          have HP : Hid (padB b = b ++ T) := by show _ = _; rw [padB, hn, ← hT, tailL, HZ.out]
          obtain ⟨Pd, hPd⟩ : ∃ Pd, b ++ T = Pd := ⟨_, rfl⟩
          have HPz : Pd.size = 64 * blocksN n := by rw [← hPd, ByteArray.size_append, hn, hTz, blocksN_spec, HZ.out]
          rw [hPd] at hadd HP
          have hT' := Lib.hid hTz
          clear hT hTz hPd
          obtain ⟨N, hN⟩ : ∃ N, blocksN n = N := ⟨_, rfl⟩
          rw [hN] at HPz
          have HN := Lib.hid hN
          have hN2 : N ≤ 20000 := by rw [← hN]; have := blocksN_spec n; have := (zerosN_spec n).2; omega
          clear hN
          have B2 := Blk.new wr 111 initU.row
          have HB0 : Hid (Blk (wr.alloc (.cells initU.row 111)) w.heap.size 107 zero16) := (A0.upd HU.out (by simp)).alloc _
          have HU3 : Hid (Upd [] w1 (wr.alloc (.cells initU.row 111))) := HU.out.alloc _
          have hgs : w.heap.size < wr.heap.size := by omega
          clear HO HIN HU hsz A0
          go_wp2_with fail
          have hrow : #[Value.int IntKind.u32 1732584193, Value.int IntKind.u32 4023233417, Value.int IntKind.u32 2562383102, Value.int IntKind.u32 271733878] = initU.row := rfl
          rw [hrow]
          generalize wr.alloc (.cells initU.row 111) = w2 at *
          generalize wr.heap.size = gs at *
          go_loopg [0] N (fun m s0 wx => ∃ (k : Nat), k + m = N ∧ s0 = .string (Pd.extract (64 * k) Pd.size) ∧ Blk wx gs 111 (blocksU Pd k).row ∧ Upd [gs] w2 wx)
          case atStart => exact ⟨0, by omega, by rw [Nat.mul_zero, ByteArray.extract_zero_size], B2, Upd.refl _ _⟩
          case round =>
            clear B2
            obtain ⟨k, hk, rfl, hB, hu⟩ := hrel
            obtain ⟨S, hS⟩ : ∃ S, Pd.extract (64 * k) Pd.size = S := ⟨_, rfl⟩
            have hSz : S.size = 64 * (N - k) := by rw [← hS, ByteArray.size_extract, HPz]; omega
            rw [hS]
            by_cases t : k < N
            · have e0 := str_empty_f (s := S) (by omega)
              have HS := Lib.hid hS
              have HSS : Hid (∀ i, i < 64 → S.data[i]? = Pd.data[64 * k + i]?) := by
                intro i hi
                rw [← hS, ByteArray.data_extract, Array.getElem?_extract, if_pos]
                have : Pd.data.size = Pd.size := rfl
                omega
              have HX : Hid (S.extract 64 (64 * (N - k)) = Pd.extract (64 * (k + 1)) Pd.size) := by
                show _ = _
                rw [← hS, ByteArray.extract_extract]
                congr 1
                omega
              have HW := Lib.hid (digWords_any Pd (64 * k) S (by simp only [maxLen]; omega) (by omega) HSS.out)
              generalize hws : wordsU Pd (64 * k) 64 = ws at *
              obtain ⟨s, hs⟩ : ∃ s, blocksU Pd k = s := ⟨_, rfl⟩
              have HQ : Hid (blocksU Pd (k + 1) = onU s ws) := by show _ = _; rw [blocksU, hs, hws]
              rw [hs] at hB
              have HON := Lib.hid (on_any s ws)
              have HUU := Lib.hid hu
              obtain ⟨s', hs'⟩ : ∃ s', onU s ws = s' := ⟨_, rfl⟩
              rw [hs'] at HON HQ
              have HB := Lib.hid hB
              clear hS hs hws hs' hB hu HSS
              go_wp2_with fail
              refine wp_region_chain [some (.agg s.row), some (.string S), some (.agg (uRow ws 16)), some (.agg s'.row), none] [4] (dgA wr gs 111 s'.row) [(0, 0), (0, 0), (0, 0), (0, 0), (0, 0)] (by kernel_rfl) (by kernel_rfl) (by kernel_rfl) (by kernel_rfl) (by kernel_rfl) (by kernel_rfl) ((Upd.refl _ _).drew) ?_ ?_
              · refine StepsC.cons ?_ (StepsC.cons ?_ (StepsC.cons ?_ (StepsC.cons ?_ (StepsC.cons ?_ StepsC.nil))))
                · refine chain_is _ (.inl rfl) ⟨_, rfl⟩ (by kernel_rfl) rfl ?_
                  intro a W kst l0 h0 A0 hF hD
                  have k0 : kst = 0 := Nat.le_antisymm h0 l0
                  subst k0
                  clear l0 h0
                  have e6 : a.tmps[6]?.getD undef = _ := (ev a 6).symm.trans (hF 6 (by kernel_rfl))
                  clear hF hD
                  have hu : Upd [] wr W := A0
                  have hb := HB.out.upd hu (by simp)
                  have c0 := hb.cell 0
                  have c1 := hb.cell 1
                  have c2 := hb.cell 2
                  have c3 := hb.cell 3
                  simp [Q4.row] at c0 c1 c2 c3
                  simp only [Q4.row]
                  go_simp
                · refine chain_is _ (.inl rfl) ⟨_, rfl⟩ (by kernel_rfl) rfl ?_
                  intro a W kst l0 h0 A0 hF hD
                  have k0 : kst = 0 := Nat.le_antisymm h0 l0
                  subst k0
                  clear l0 h0
                  have e0 : a.tmps[0]?.getD undef = _ := (ev a 0).symm.trans (hF 0 (by kernel_rfl))
                  clear hF hD
                  go_simp
                · refine chain_beside _ (.inl rfl) ⟨_, rfl⟩ (by kernel_rfl) rfl ?_
                  intro a W kst l0 h0 A0 hF hD
                  have k0 : kst = 0 := Nat.le_antisymm h0 l0
                  subst k0
                  clear l0 h0
                  have e46 : a.tmps[46]?.getD undef = .string S := (ev a 46).symm.trans (hD _ (Array.mem_of_getElem? (i := 0) rfl) rfl)
                  clear hF hD
                  have hu : Upd [] wr W := A0
                  refine ⟨_, _, by (go_simp; first | done | rfl | exact ⟨rfl, rfl⟩), ?_⟩
                  refine (HW.out _).mono ?_
                  rintro e wq ⟨rfl, hu2⟩
                  exact ⟨rfl, hu.trans hu2⟩
                · refine chain_beside _ (.inl rfl) ⟨_, rfl⟩ (by kernel_rfl) rfl ?_
                  intro a W kst l0 h0 A0 hF hD
                  have k0 : kst = 0 := Nat.le_antisymm h0 l0
                  subst k0
                  clear l0 h0
                  have e45 : a.tmps[45]?.getD undef = .agg s.row := (ev a 45).symm.trans (hD _ (Array.mem_of_getElem? (i := 0) rfl) rfl)
                  have e47 : a.tmps[47]?.getD undef = .agg (uRow ws 16) := (ev a 47).symm.trans (hD _ (Array.mem_of_getElem? (i := 1) rfl) rfl)
                  clear hF hD
                  have hu : Upd [] wr W := A0
                  refine ⟨_, _, by (go_simp; first | done | rfl | exact ⟨rfl, rfl⟩), ?_⟩
                  refine (HON.out _).mono ?_
                  rintro e wq ⟨rfl, hu2⟩
                  exact ⟨rfl, hu.trans hu2⟩
                · refine chain_set (.inl rfl) rfl (by kernel_rfl) trivial ?_
                  intro a W kst l0 h0 A0 hF hD
                  have k0 : kst = 0 := Nat.le_antisymm h0 l0
                  subst k0
                  clear l0 h0
                  have e48 : a.tmps[48]?.getD undef = .agg s'.row := (ev a 48).symm.trans (hD _ (Array.mem_of_getElem? (i := 0) rfl) rfl)
                  have e6 : a.tmps[6]?.getD undef = _ := (ev a 6).symm.trans (hF 6 (by kernel_rfl))
                  clear hF hD
                  have hu : Upd [] wr W := A0
                  have hb := HB.out.upd hu (by simp)
                  have c0 := hb.cell 0
                  have c1 := hb.cell 1
                  have c2 := hb.cell 2
                  have c3 := hb.cell 3
                  have f0 := hb.frozen 0
                  have f1 := hb.frozen 1
                  have f2 := hb.frozen 2
                  have f3 := hb.frozen 3
                  simp [Q4.row] at c0 c1 c2 c3
                  simp only [Q4.row] at e48
                  refine ⟨_, by (go_simp; first | done | rfl | exact ⟨rfl, rfl⟩), ?_, (((hb.set_ 0 (.int .u32 s'.a.toNat)).set_ 1 (.int .u32 s'.b.toNat)).set_ 2 (.int .u32 s'.c.toNat)).set_ 3 (.int .u32 s'.d.toNat)⟩
                  exact ((((Upd.mono (F := []) hu (by simp)).setCell _ (.inl (by simp))).setCell _ (.inl (by simp))).setCell _ (.inl (by simp))).setCell _ (.inl (by simp))
              intro vals W hv hA
              have v0 : vals 0 = .agg s.row := hv 0 (by decide)
              have v1 : vals 1 = .string S := hv 1 (by decide)
              have v2 : vals 2 = .agg (uRow ws 16) := hv 2 (by decide)
              have v3 : vals 3 = .agg s'.row := hv 3 (by decide)
              clear hv
              obtain ⟨hu, hB⟩ := hA
              simp only [putAll, Act.put, Nat.zero_add, Nat.reduceAdd, v0, v1, v2, v3, List.setIfInBounds_toArray, List.set_cons_zero, List.set_cons_succ]
              clear v0 v1 v2 v3
              have HB2 := Lib.hid hB
              have HU2 := Lib.hid hu
              clear hB hu
              go_wp2_with fail
              go_roundg (N - (k + 1))
              case rel => exact ⟨k + 1, by omega, by rw [← HX.out], by rw [HQ.out]; exact HB2.out, HUU.out.trans HU2.out⟩
              case measure => omega
            · obtain rfl : k = N := by omega
              have e0 := str_empty_t (s := S) (by omega)
              have HB := Lib.hid hB
              have HR : Hid (Blk wr w.heap.size 107 zero16) := HB0.out.upd hu (by simp; omega)
              have HU4 : Hid (Upd [] w wr) := (U0.trans HU3.out).trans' hu (fun x hx => .inr (by simp at hx; omega))
              have hlt : gs < wr.heap.size := hB.lt
              have hgl : w.heap.size < wr.heap.size := by omega
              have B3 := Blk.new wr 107 zero16
              have HB4 : Hid (Blk (wr.alloc (.cells zero16 107)) gs 111 (blocksU Pd k).row) := hB.alloc _
              have HR4 : Hid (Blk (wr.alloc (.cells zero16 107)) w.heap.size 107 zero16) := HR.out.alloc _
              have HU5 : Hid (Upd [] w (wr.alloc (.cells zero16 107))) := HU4.out.alloc _
              have HG : Hid (∀ i, md5At b i = ((blocksU Pd k).get (i / 4)).toNat / 2 ^ (8 * (i % 4)) % 256) := by
                intro i
                rw [md5At, hn, HN.out, HP.out]
              generalize blocksU Pd k = st at *
              clear hB hu HB HR HU4 HB0 HU3 HP HZ HZ2 HN
              go_wp2_with fail
              rw [show (#[Value.int .u8 0, Value.int .u8 0, Value.int .u8 0, Value.int .u8 0, Value.int .u8 0, Value.int .u8 0, Value.int .u8 0, Value.int .u8 0, Value.int .u8 0, Value.int .u8 0, Value.int .u8 0, Value.int .u8 0, Value.int .u8 0, Value.int .u8 0, Value.int .u8 0, Value.int .u8 0] : Array Value) = zero16 from rfl]
              generalize wr.alloc (.cells zero16 107) = w3 at *
              generalize wr.heap.size = go at *
              go_loopg [49] 16 (fun m s49 wx => ∃ (j : Nat), j + m = 16 ∧ s49 = .int .i64 j ∧ Blk wx go 107 (mdRow b j) ∧ Upd [go] w3 wx)
              case atStart => exact ⟨0, rfl, rfl, B3, Upd.refl _ _⟩
              case round =>
                clear B3
                obtain ⟨j, hj, rfl, hB, hu⟩ := hrel
                by_cases t : j < 16
                · have cst : wr.cell? ⟨gs, j / 4, none⟩ = some (.int .u32 (st.get (j / 4)).toNat) := by
                    rw [(HB4.out.upd hu (by simp; omega)).cell]
                    have : j / 4 = 0 ∨ j / 4 = 1 ∨ j / 4 = 2 ∨ j / 4 = 3 := by omega
                    rcases this with h | h | h | h <;> rw [h] <;> rfl
                  have fo := hB.frozen j
                  have co : wr.cell? ⟨go, j, none⟩ = some (.int .u8 0) := by
                    rw [hB.cell, mdRow_get _ _ _ t, if_neg (by omega)]
                  have HE : Hid (((st.get (j / 4)).toNat : Int) / 2 ^ (8 * (j % 4)) % 256 = (md5At b j : Nat)) := by
                    show _ = _
                    rw [HG.out]
                    all_goals norm_cast
                  have hst := (st.get (j / 4)).isLt
                  generalize st.get (j / 4) = sj at *
                  have HB := Lib.hid hB
                  have HU := Lib.hid hu
                  clear hB hu
                  go_wp2_with fail
                  go_roundg (16 - (j + 1))
                  case rel =>
                    refine ⟨j + 1, by omega, by go_num, ?_, HU.out.setCell _ (.inl (by simp))⟩
                    rw [HE.out]
                    exact (HB.out.set_ j _).of_eq (mdRow_set b j t)
                  case measure => omega
                · obtain rfl : j = 16 := by omega
                  have hR := HR4.out.upd hu (by simp; omega)
                  have hUU : Upd [] w wr := HU5.out.trans' hu (fun x hx => .inr (by simp at hx; omega))
                  go_upto_region 21 with (fail)
                  refine wp_region_lit ?_
                  refine wpList_load_row rfl _ _ rfl go rfl _ _ _ _ hB Try.underlying107 rfl (by kernel_rfl) ?_
                  refine wpList_store_row rfl _ _ _ rfl w.heap.size _ rfl rfl _ _ hR (by kernel_rfl) (by simp [mdRow, zero16]) (by simp [mdRow, Value.oneCell']) ?_
                  have hB2 := hR.row_ (mdRow b 16)
                  have hu2 := hUU.setRow' (.inr (Nat.le_refl _)) (mdRow b 16)
                  generalize wr.setRow w.heap.size (mdRow b 16) = W at *
                  simp only [Act.put, Nat.zero_add, Nat.reduceAdd, List.setIfInBounds_toArray, List.set_cons_zero, List.set_cons_succ]
                  go_wp2_with fail
                  exact bodyPost_ret (results_cell_row rfl _ _ w.heap.size _ _ _ _ rfl (hB2.of_eq (mdRow_all b)) Try.underlying107 rfl (by kernel_rfl)) rfl ⟨rfl, hu2⟩
end Go.Proofs.Ytcplhlokbnaabaa
