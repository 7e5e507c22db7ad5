/- The walk of the document's own MD5 (chapter 2). -/
import Derived.Great.Walk
import Derived.Test.YtglafpdealjlnaaGreatQRMdA
import Derived.Test.YtglafpdealjlnaaGreatQDigM
import Derived.Test.YtglafpdealjlnaaGreatQRefW
namespace Go.Proofs.YtglafpdealjlnaaGreat
open Go.RowKit
set_option linter.unusedSimpArgs false
set_option linter.unusedVariables false
set_option maxRecDepth 100000

def tabRowI : Array Value := ((List.range 64).map fun j => Value.int .i64 (tabU j).toNat).toArray
theorem tabRowI_get (j : Nat) (h : j < 64) : tabRowI[j]? = some (.int .i64 (tabU j).toNat) := by simp [tabRowI, h]
def shiftRow : Array Value := ((List.range 16).map fun j => Value.int .i64 ((turnL[j]?).getD 0 : Nat)).toArray
theorem shiftRow_get (j : Nat) (h : j < 16) : shiftRow[j]? = some (.int .i64 ((turnL[j]?).getD 0 : Nat)) := by simp [shiftRow, h]
def Q4.irow (s : Q4) : Array Value := #[.int .i64 s.a.toNat, .int .i64 s.b.toNat, .int .i64 s.c.toNat, .int .i64 s.d.toNat]
theorem strOfNums_app (l r : List Int) : strOfNums (l ++ r) = strOfNums l ++ strOfNums r := by
  apply ByteArray.ext
  simp [strOfNums, ByteArray.data_append]
theorem strOfNums_one (l : List Int) (x : Int) (b : ByteArray) : b ++ strOfNums l ++ strOfNums [x] = b ++ strOfNums (l ++ [x]) := by
  rw [ByteArray.append_assoc, strOfNums_app]
theorem bytes_one (wr : World) (x : Int) : (convert 151 9 (.slice (some ⟨wr.heap.size, 0, none⟩) 1 1)).run Tryz.prog (wr.alloc (.cells #[.int .u8 x] 5)) = .ok (.string (strOfNums [x])) (wr.alloc (.cells #[.int .u8 x] 5)) := by
  refine run_convert_bytes_arg (P := Tryz.prog) _ 151 5 Tryz.underlying151 Tryz.underlying5 wr.heap.size 0 1 1 [x] rfl (fun i hi => ?_) 9 Tryz.underlying9
  obtain rfl : i = 0 := by omega
  rw [(Blk.new wr _ _).cell]
  rfl
theorem mixF_i (i : Nat) (hi : i < 64) (b c d : U) :
    (i / 16 = 0 ∧ mixF i b c d = b &&& c ||| ~~~b &&& d ∧ mixK i = i) ∨ (i / 16 = 1 ∧ mixF i b c d = b &&& d ||| c &&& ~~~d ∧ mixK i = (5 * i + 1) % 16) ∨ (i / 16 = 2 ∧ mixF i b c d = b ^^^ c ^^^ d ∧ mixK i = (3 * i + 5) % 16) ∨ (i / 16 = 3 ∧ mixF i b c d = c ^^^ (b ||| ~~~d) ∧ mixK i = 7 * i % 16) := by
  unfold mixF mixK
  by_cases h1 : i < 16
  · rw [if_pos h1, if_pos h1]; exact .inl ⟨by omega, rfl, rfl⟩
  rw [if_neg h1, if_neg h1]
  by_cases h2 : i < 32
  · rw [if_pos h2, if_pos h2]; exact .inr (.inl ⟨by omega, rfl, rfl⟩)
  rw [if_neg h2, if_neg h2]
  by_cases h3 : i < 48
  · rw [if_pos h3, if_pos h3]; exact .inr (.inr (.inl ⟨by omega, rfl, rfl⟩))
  rw [if_neg h3, if_neg h3]; exact .inr (.inr (.inr ⟨by omega, rfl, rfl⟩))

set_option maxHeartbeats 4000000 in
theorem rmd5_any (b : ByteArray) (hb : b.size ≤ 1000000) (w : World) :
    Calls Tryz.prog 318 #[.string b] w fun e w' => e = .returned (.agg (md5Row b)) ∧ Upd [] w w' := by
  obtain ⟨n, hn⟩ : ∃ n, b.size = n := ⟨_, rfl⟩
  rw [hn] at hb
  have A0 : Blk (w.alloc (Obj.cells zero16 361)) w.heap.size 361 zero16 := Blk.new _ _ _
  have U0 : Upd [] w (w.alloc (Obj.cells zero16 361)) := (Upd.refl _ _).alloc _
  go_enter Tryz.func318, Tryz.ntmps318
  go_upto_region 1 with (fail)
  have hw1 : (w.alloc (Obj.cells zero16 361)).heap.size = w.heap.size + 1 := by simp
  generalize hw1' : w.alloc (Obj.cells zero16 361) = w1 at *
  rw [show w.alloc (Obj.cells #[Value.int .u8 0, Value.int .u8 0, Value.int .u8 0, Value.int .u8 0, Value.int .u8 0, Value.int .u8 0, Value.int .u8 0, Value.int .u8 0, Value.int .u8 0, Value.int .u8 0, Value.int .u8 0, Value.int .u8 0, Value.int .u8 0, Value.int .u8 0, Value.int .u8 0, Value.int .u8 0] 361) = w1 from hw1']
  clear hw1'
  refine wp_region_lit ?_
  refine Go.Great.wpList_buildSliceTo rfl 59 3 64 _ rfl (w.heap.size + 1) hw1 _ rfl Tryz.underlying59 tabRowI (by kernel_rfl) ?_
  generalize (#[_, _] : Array Oper) = ops1
  have A1 : Blk (w1.alloc (.cells tabRowI 3)) (w.heap.size + 1) 3 tabRowI := by have := Blk.new w1 3 tabRowI; rwa [hw1] at this
  have hw2 : (w1.alloc (.cells tabRowI 3)).heap.size = w.heap.size + 2 := by rw [World.size_alloc, hw1]
  have A0 := A0.alloc (.cells tabRowI 3)
  have U0 := U0.alloc (.cells tabRowI 3)
  generalize w1.alloc (.cells tabRowI 3) = w2 at *
  clear hw1
  simp only [Act.put, Nat.zero_add, Nat.reduceAdd, List.setIfInBounds_toArray, List.set_cons_zero, List.set_cons_succ]
  go_upto_region 2 with (fail)
  refine wp_region_lit ?_
  refine Go.Great.wpList_buildSliceTo rfl 59 3 16 _ rfl (w.heap.size + 2) hw2 _ rfl Tryz.underlying59 shiftRow (by kernel_rfl) ?_
  generalize (#[_, _] : Array Oper) = ops2
  have A2 : Blk (w2.alloc (.cells shiftRow 3)) (w.heap.size + 2) 3 shiftRow := by have := Blk.new w2 3 shiftRow; rwa [hw2] at this
  have hw3 : (w2.alloc (.cells shiftRow 3)).heap.size = w.heap.size + 3 := by rw [World.size_alloc, hw2]
  have A1 := A1.alloc (.cells shiftRow 3)
  have A0 := A0.alloc (.cells shiftRow 3)
  have U0 := U0.alloc (.cells shiftRow 3)
  generalize w2.alloc (.cells shiftRow 3) = w3 at *
  clear hw2
  simp only [Act.put, Nat.zero_add, Nat.reduceAdd, List.setIfInBounds_toArray, List.set_cons_zero, List.set_cons_succ]
  have hadd := run_string_add_sum (P := Tryz.prog) w3 b ⟨#[128]⟩ (by rw [hn]; show n + 1 ≤ _; omega)
  obtain ⟨S0, hS0⟩ : ∃ S, b ++ ⟨#[128]⟩ = S := ⟨_, rfl⟩
  rw [hS0] at hadd
  have HS0 : Hid (S0 = b ++ strOfNums (128 :: List.replicate 0 0)) := hS0.symm
  clear hS0
  have HA0 := Lib.hid A0
  have HA1 := Lib.hid A1
  have HA2 := Lib.hid A2
  have HU0 := Lib.hid U0
  clear A0 A1 A2 U0
  go_wp2_with fail
  clear hadd
  go_loopg [5] (zerosN n) (fun m s5 wr => ∃ (k : Nat) (S : ByteArray), k + m = zerosN n ∧ s5 = .string S ∧ S = b ++ strOfNums (128 :: List.replicate k 0) ∧ w3 = wr)
  case atStart => exact ⟨0, _, by omega, rfl, HS0.out, rfl⟩
  case round =>
    clear HS0
    obtain ⟨k, S, hk, rfl, hS, rfl⟩ := hrel
    have hz := zerosN_spec n
    obtain ⟨z, hzz⟩ : ∃ z, S.size = z := ⟨_, rfl⟩
    have hz1 : z = n + 1 + k := by rw [← hzz, hS, ByteArray.size_append, strOfNums_size, hn]; simp; omega
    have HS := Lib.hid hS
    clear hS
    by_cases t : k < zerosN n
    · have q1 := zerosN_least n k t
      have q2 : (z : Int) % 64 ≠ 56 := by omega
      have hk64 : k < 64 := by omega
      have hadd := run_string_add_sum (P := Tryz.prog) w3 S ⟨#[0]⟩ (by rw [hzz]; show z + 1 ≤ _; omega)
      obtain ⟨S', hS'⟩ : ∃ S', S ++ ⟨#[0]⟩ = S' := ⟨_, rfl⟩
      rw [hS'] at hadd
      have HS' : Hid (S' = b ++ strOfNums (128 :: List.replicate (k + 1) 0)) := by
        show _ = _
        rw [← hS', HS.out, List.replicate_succ', ← List.cons_append]
        exact strOfNums_one _ 0 b
      clear q1 hS'
      go_wp2_with fail
      go_roundg (zerosN n - (k + 1))
      case rel => exact ⟨k + 1, S', by omega, rfl, HS'.out, rfl⟩
      case measure => omega
    · obtain rfl : k = zerosN n := by omega
      have q2 : (z : Int) % 64 = 56 := by omega
      have hzb : zerosN n < 64 := hz.2
      go_wp2_with fail
      clear q2
      go_loopg [5, 6, 7] 8 (fun m s5 s6 s7 wr => ∃ (j v : Nat) (T : ByteArray), j + m = 8 ∧ s5 = .string T ∧ s6 = .int .i64 v ∧ s7 = .int .i64 j ∧ v = n * 8 / 256 ^ j ∧ T = b ++ strOfNums (128 :: List.replicate (zerosN n) 0 ++ (List.range j).map (fun i => ((n * 8 / 256 ^ i % 256 : Nat) : Int))) ∧ Upd [] w3 wr)
      case atStart => exact ⟨0, n * 8, S, rfl, rfl, by go_num, rfl, by simp, by simpa using HS.out, Upd.refl _ _⟩
      case round =>
        obtain ⟨j, v, T, hj, rfl, rfl, rfl, hv, hT, hu⟩ := hrel
        have hvb : v ≤ 8000000 := by rw [hv]; exact Nat.le_trans (Nat.div_le_self _ _) (by omega)
        obtain ⟨y, hy⟩ : ∃ y, T.size = y := ⟨_, rfl⟩
        have hy1 : y = n + 1 + zerosN n + j := by rw [← hy, hT, ByteArray.size_append, strOfNums_size, hn]; simp; omega
        clear HS hzz hz1 hk
        by_cases t : j < 8
        · have hcv := bytes_one wr ((v : Int) % 256)
          have hcs : (strOfNums [(v : Int) % 256]).size = 1 := by rw [strOfNums_size]; rfl
          have HC : Hid (T ++ strOfNums [(v : Int) % 256] = b ++ strOfNums (128 :: List.replicate (zerosN n) 0 ++ (List.range (j + 1)).map (fun i => ((n * 8 / 256 ^ i % 256 : Nat) : Int)))) := by
            show _ = _
            rw [hT, strOfNums_one, List.range_succ, List.map_append, ← List.append_assoc, List.map_singleton, ← hv]
            norm_cast
          have HV : Hid (v / 256 = n * 8 / 256 ^ (j + 1)) := by show _ = _; rw [hv, Nat.div_div_eq_div_mul, Nat.pow_succ]
          generalize strOfNums [(v : Int) % 256] = C at *
          have hadd := run_string_add_sum (P := Tryz.prog) (wr.alloc (.cells #[.int .u8 ((v : Int) % 256)] 5)) T C (by rw [hcs, hy]; omega)
          generalize T ++ C = T' at *
          have HU := Lib.hid hu
          clear hv hT hu
          go_wp2_with fail
          go_roundg (8 - (j + 1))
          case rel => exact ⟨j + 1, v / 256, T', by omega, rfl, by go_num, by go_num, HV.out, HC.out, HU.out.alloc _⟩
          case measure => omega
        · obtain rfl : j = 8 := by omega
          have HP : Hid (padB b = T) := by show _ = _; rw [padB, hn, hT, tailL]
          have HPz : y = 64 * blocksN n := by rw [hy1, blocksN_spec]; omega
          obtain ⟨N, hN⟩ : ∃ N, blocksN n = N := ⟨_, rfl⟩
          rw [hN] at HPz
          have HN := Lib.hid hN
          have hN2 : N ≤ 20000 := by rw [← hN]; have := blocksN_spec n; have := (zerosN_spec n).2; omega
          clear hN hT hv hvb hy1 hz hzb hj t
          have B2 := Blk.new wr 372 initU.irow
          have HU3 := Lib.hid (hu.alloc (.cells initU.irow 372))
          have hgs : w.heap.size + 3 ≤ wr.heap.size := by have := hu.size; omega
          clear hu
          go_wp2_with fail
          have hrow : #[Value.int IntKind.i64 1732584193, Value.int IntKind.i64 4023233417, Value.int IntKind.i64 2562383102, Value.int IntKind.i64 271733878] = initU.irow := rfl
          rw [hrow]
          clear hrow
          have hg4 : (wr.alloc (.cells initU.irow 372)).heap.size = wr.heap.size + 1 := by simp
          generalize wr.alloc (.cells initU.irow 372) = w4 at *
          generalize wr.heap.size = gs at *
          generalize ((8 : Nat) : Int) = e8
          generalize Value.bool (((n : Int) + 1 + ((zerosN n : Nat) : Int)) % 64 != 56) = v27
          go_loopg [9] N (fun m s9 wx => ∃ (k o : Nat), k + m = N ∧ s9 = .int .i64 o ∧ o = 64 * k ∧ Blk wx gs 372 (blocksU T k).irow ∧ Upd [gs] w4 wx)
          case atStart => exact ⟨0, 0, by omega, rfl, rfl, B2, Upd.refl _ _⟩
          case round =>
            clear B2
            obtain ⟨k, o, hk, rfl, ho, hB, hu⟩ := hrel
            by_cases t : k < N
            · have q3 : (o : Int) < y := by omega
              obtain ⟨s, hs⟩ : ∃ s, blocksU T k = s := ⟨_, rfl⟩
              have HQ : Hid (blocksU T (k + 1) = onU s (wordsU T o 64)) := by show _ = _; rw [blocksU, hs, ho]
              rw [hs] at hB
              clear hs
              have ho2 : o + 64 ≤ y := by omega
              have ho3 : y ≤ 1280000 := by omega
              have HOO := Lib.hid ho
              have HPY := Lib.hid HPz
              clear ho HPz
              have c0 := hB.cell 0
              have c1 := hB.cell 1
              have c2 := hB.cell 2
              have c3 := hB.cell 3
              simp [Q4.irow] at c0 c1 c2 c3
              have HB := Lib.hid hB
              have HU := Lib.hid hu
              clear hB hu
              go_wp2_with fail
              go_quiet (fail)
              go_wp2_with fail
              generalize hwx : World.drewN wr _ = wb at *
              have HUB : Hid (Upd [gs] w4 wb) := by rw [← hwx]; exact HU.out.drewN _
              have HBB : Hid (Blk wb gs 372 s.irow) := by rw [← hwx]; exact HB.out
              clear hwx HU HB c0 c1 c2 c3
              obtain ⟨ws, hws⟩ : ∃ ws, wordsU T o 64 = ws := ⟨_, rfl⟩
              have HW : Hid (∀ j, j < 16 → byte T (o + 4 * j) + byte T (o + 4 * j + 1) * 256 + byte T (o + 4 * j + 2) * 65536 + byte T (o + 4 * j + 3) * 16777216 = ((ws j).toNat : Int)) := fun j hj => by rw [← hws]; exact (words_at T o j hj).symm
              rw [hws] at HQ
              clear hws
              go_loopg [10, 11, 12, 13, 14] 64 (fun m s10 s11 s12 s13 s14 wz => ∃ (i : Nat) (q : Q4), i + m = 64 ∧ s14 = .int .i64 i ∧ s10 = .int .i64 q.a.toNat ∧ s11 = .int .i64 q.b.toNat ∧ s12 = .int .i64 q.c.toNat ∧ s13 = .int .i64 q.d.toNat ∧ q = stepsU ws s i ∧ Upd [] wb wz)
              case atStart => exact ⟨0, s, rfl, rfl, rfl, rfl, rfl, rfl, rfl, Upd.refl _ _⟩
              case round =>
                obtain ⟨i, q, hi, rfl, rfl, rfl, rfl, rfl, hq, hu⟩ := hrel
                by_cases t : i < 64
                · obtain ⟨qa, qb, qc, qd⟩ := q
                  dsimp only
                  have HQI : Hid (stepsU ws s (i + 1) = ⟨qd, qb + rotU (qa + mixF i qb qc qd + tabU i + ws (mixK i)) (turnN i), qb, qc⟩) := by
                    show _ = _
                    rw [stepsU, ← hq]
                    rfl
                  clear hq
                  have hmk := mixK_lt i t
                  have htn := turnN_lt i
                  have HU := Lib.hid hu
                  have ht1 : wr.cell? ⟨w.heap.size + 1, i, none⟩ = some (.int .i64 (tabU i).toNat) := by
                    rw [(((HA1.out.upd HU3.out (by simp)).upd HUB.out (by simp; omega)).upd hu (by simp)).cell]
                    exact tabRowI_get i t
                  have ht2 : wr.cell? ⟨w.heap.size + 2, i / 16 * 4 + i % 4, none⟩ = some (.int .i64 (turnN i)) := by
                    rw [(((HA2.out.upd HU3.out (by simp)).upd HUB.out (by simp; omega)).upd hu (by simp)).cell]
                    exact shiftRow_get _ (by omega)
                  have ht3 : i / 16 * 4 + i % 4 < 16 := by omega
                  clear hu
                  have hmix := mixF_i i t qb qc qd
                  have hk3 : o + 4 * mixK i + 3 < y := by omega
                  have hwk := HW.out (mixK i) hmk
                  clear HW
                  generalize tabU i = tb at *
                  generalize turnN i = tn at *
                  generalize ws (mixK i) = wk at *
                  generalize mixK i = mk at *
                  generalize mixF i qb qc qd = f at *
                  have h4 := add4_i f qa tb wk
                  generalize qa + f + tb + wk = s3 at *
                  have h5 := add_i qb (rotU s3 tn)
                  generalize hr : rotU s3 tn = r at *
                  generalize qb + r = s4 at *
                  have b1 := qa.isLt
                  have b2 := qb.isLt
                  have b3 := qc.isLt
                  have b4 := qd.isLt
                  have b5 := f.isLt
                  have b6 := tb.isLt
                  have b7 := wk.isLt
                  have b8 := s3.isLt
                  have b9 := r.isLt
                  obtain ⟨p, hp⟩ : ∃ p : Nat, o + 4 * mk = p := ⟨_, rfl⟩
                  rw [hp] at hwk
                  have q0 := byte_get T p (by omega)
                  have q1 := byte_get T (p + 1) (by omega)
                  have q2 := byte_get T (p + 2) (by omega)
                  have q4 := byte_get T (p + 3) (by omega)
                  have d0 := byte_bd T p
                  have d1 := byte_bd T (p + 1)
                  have d2 := byte_bd T (p + 2)
                  have d3 := byte_bd T (p + 3)
                  generalize byte T p = y0 at *
                  generalize byte T (p + 1) = y1 at *
                  generalize byte T (p + 2) = y2 at *
                  generalize byte T (p + 3) = y3 at *
                  have w11 : IntKind.i64.wrap ((p : Int) + 1) = (p : Int) + 1 := IntWalk.i64_in _ (by omega)
                  have w12 : IntKind.i64.wrap ((p : Int) + 2) = (p : Int) + 2 := IntWalk.i64_in _ (by omega)
                  have w13 : IntKind.i64.wrap ((p : Int) + 3) = (p : Int) + 3 := IntWalk.i64_in _ (by omega)
                  have w21 : ((p : Int) + 1).toNat = p + 1 := by omega
                  have w22 : ((p : Int) + 2).toNat = p + 2 := by omega
                  have w23 : ((p : Int) + 3).toNat = p + 3 := by omega
                  have w30 : True → IntKind.i64.wrap y0 = y0 := fun _ => IntWalk.i64_in _ (by omega)
                  have w31 : True → IntKind.i64.wrap y1 = y1 := fun _ => IntWalk.i64_in _ (by omega)
                  have w32 : True → IntKind.i64.wrap y2 = y2 := fun _ => IntWalk.i64_in _ (by omega)
                  have w33 : True → IntKind.i64.wrap y3 = y3 := fun _ => IntWalk.i64_in _ (by omega)
                  rcases hmix with ⟨hd, hf, hm⟩ | ⟨hd, hf, hm⟩ | ⟨hd, hf, hm⟩ | ⟨hd, hf, hm⟩
                  · have k1 : (((i : Int) / 16) == 0) = true := by simp; omega
                    clear hd
                    have hpi : (o : Int) + 4 * (i : Int) = p := by omega
                    have e1 := bits_and_i qb qc
                    have e2 := not_i qb
                    have e3 := bits_and_i (~~~qb) qd
                    have e4 := bits_or_i (qb &&& qc) (~~~qb &&& qd)
                    rw [← hf] at e4
                    clear hf
                    generalize qb &&& qc = g1 at *
                    generalize ~~~qb = g2 at *
                    generalize g2 &&& qd = g3 at *
                    have b10 := g1.isLt
                    have b11 := g2.isLt
                    have b12 := g3.isLt
                    go_wp2_with fail
                    go_quiet (fail)
                    go_wp2_with fail
                    rw [h4]
                    refine (rturn_any s3 tn htn _).mono ?_
                    rintro e wt ⟨rfl, rfl⟩
                    rw [hr]
                    go_wp2_with fail
                    go_roundg (64 - (i + 1))
                    case rel => exact ⟨i + 1, ⟨qd, s4, qb, qc⟩, by omega, by go_num, rfl, by rw [← h5], rfl, rfl, HQI.out.symm, HU.out.drewN _⟩
                    case measure => omega
                  · have k1 : (((i : Int) / 16) == 0) = false := by simp; omega
                    have k2 : (((i : Int) / 16) == 1) = true := by simp; omega
                    clear hd
                    have k4 : (5 * (i : Int) + 1) % 16 = (mk : Int) := by omega
                    have hpi : (o : Int) + 4 * (mk : Int) = p := by omega
                    clear hm
                    have e1 := bits_and_i qd qb
                    have e2 := not_i qd
                    have e3 := bits_and_i (~~~qd) qc
                    have e4 := bits_or_i (qb &&& qd) (qc &&& ~~~qd)
                    rw [← hf] at e4
                    rw [BitVec.and_comm qd qb] at e1
                    rw [BitVec.and_comm (~~~qd) qc] at e3
                    clear hf
                    generalize qb &&& qd = g1 at *
                    generalize ~~~qd = g2 at *
                    generalize qc &&& g2 = g3 at *
                    have b10 := g1.isLt
                    have b11 := g2.isLt
                    have b12 := g3.isLt
                    go_wp2_with fail
                    go_quiet (fail)
                    go_wp2_with fail
                    rw [h4]
                    refine (rturn_any s3 tn htn _).mono ?_
                    rintro e wt ⟨rfl, rfl⟩
                    rw [hr]
                    go_wp2_with fail
                    go_roundg (64 - (i + 1))
                    case rel => exact ⟨i + 1, ⟨qd, s4, qb, qc⟩, by omega, by go_num, rfl, by rw [← h5], rfl, rfl, HQI.out.symm, HU.out.drewN _⟩
                    case measure => omega
                  · have k1 : (((i : Int) / 16) == 0) = false := by simp; omega
                    have k2 : (((i : Int) / 16) == 1) = false := by simp; omega
                    have k3 : (((i : Int) / 16) == 2) = true := by simp; omega
                    clear hd
                    have k4 : (3 * (i : Int) + 5) % 16 = (mk : Int) := by omega
                    have hpi : (o : Int) + 4 * (mk : Int) = p := by omega
                    clear hm
                    have e1 := bits_xor_i qb qc
                    have e2 := bits_xor_i (qb ^^^ qc) qd
                    rw [← hf] at e2
                    clear hf
                    generalize qb ^^^ qc = g1 at *
                    have b10 := g1.isLt
                    go_wp2_with fail
                    go_quiet (fail)
                    go_wp2_with fail
                    rw [h4]
                    refine (rturn_any s3 tn htn _).mono ?_
                    rintro e wt ⟨rfl, rfl⟩
                    rw [hr]
                    go_wp2_with fail
                    go_roundg (64 - (i + 1))
                    case rel => exact ⟨i + 1, ⟨qd, s4, qb, qc⟩, by omega, by go_num, rfl, by rw [← h5], rfl, rfl, HQI.out.symm, HU.out.drewN _⟩
                    case measure => omega
                  · have k1 : (((i : Int) / 16) == 0) = false := by simp; omega
                    have k2 : (((i : Int) / 16) == 1) = false := by simp; omega
                    have k3 : (((i : Int) / 16) == 2) = false := by simp; omega
                    clear hd
                    have k4 : 7 * (i : Int) % 16 = (mk : Int) := by omega
                    have hpi : (o : Int) + 4 * (mk : Int) = p := by omega
                    clear hm
                    have e1 := not_i qd
                    have e2 := bits_or_i qb (~~~qd)
                    have e3 := bits_xor_i qc (qb ||| ~~~qd)
                    rw [← hf] at e3
                    clear hf
                    generalize ~~~qd = g1 at *
                    generalize qb ||| g1 = g2 at *
                    have b10 := g1.isLt
                    have b11 := g2.isLt
                    go_wp2_with fail
                    go_quiet (fail)
                    go_wp2_with fail
                    rw [h4]
                    refine (rturn_any s3 tn htn _).mono ?_
                    rintro e wt ⟨rfl, rfl⟩
                    rw [hr]
                    go_wp2_with fail
                    go_roundg (64 - (i + 1))
                    case rel => exact ⟨i + 1, ⟨qd, s4, qb, qc⟩, by omega, by go_num, rfl, by rw [← h5], rfl, rfl, HQI.out.symm, HU.out.drewN _⟩
                    case measure => omega
                · obtain rfl : i = 64 := by omega
                  have HON : Hid (onU s ws = ⟨s.a + q.a, s.b + q.b, s.c + q.c, s.d + q.d⟩) := by
                    show _ = _
                    rw [onU, ← hq]
                  clear hq
                  have HB2 := HBB.out.upd hu (by simp)
                  have c0 := HB2.cell 0
                  have c1 := HB2.cell 1
                  have c2 := HB2.cell 2
                  have c3 := HB2.cell 3
                  have f0 := HB2.frozen 0
                  have f1 := HB2.frozen 1
                  have f2 := HB2.frozen 2
                  have f3 := HB2.frozen 3
                  simp [Q4.irow] at c0 c1 c2 c3
                  have HBC := Lib.hid HB2
                  have HUC : Hid (Upd [gs] w4 wr) := HUB.out.trans (hu.mono (by simp))
                  clear HB2 hu HBB HUB
                  obtain ⟨sa, sb, sc, sd⟩ := s
                  obtain ⟨qa, qb, qc, qd⟩ := q
                  dsimp only at *
                  have a1 := add_i sa qa
                  have a2 := add_i sb qb
                  have a3 := add_i sc qc
                  have a4 := add_i sd qd
                  have b1 := qa.isLt
                  have b2 := qb.isLt
                  have b3 := qc.isLt
                  have b4 := qd.isLt
                  have b5 := sa.isLt
                  have b6 := sb.isLt
                  have b7 := sc.isLt
                  have b8 := sd.isLt
                  rw [HON.out] at HQ
                  generalize sa + qa = ra at *
                  generalize sb + qb = rb at *
                  generalize sc + qc = rc at *
                  generalize sd + qd = rd at *
                  go_wp2_with fail
                  go_roundg (N - (k + 1))
                  case rel =>
                    refine ⟨k + 1, o + 64, by omega, by go_num, by have := HOO.out; omega, ?_, (((HUC.out.setCell _ (.inl (by simp))).setCell _ (.inl (by simp))).setCell _ (.inl (by simp))).setCell _ (.inl (by simp))⟩
                    rw [HQ.out]
                    exact ((((HBC.out.set_ 0 (.int .i64 ra.toNat)).set_ 1 (.int .i64 rb.toNat)).set_ 2 (.int .i64 rc.toNat)).set_ 3 (.int .i64 rd.toNat)).of_eq rfl
                  case measure => omega
            · obtain rfl : k = N := by omega
              have q3 : ¬ ((o : Int) < y) := by omega
              have HUW : Hid (Upd [] w wr) := (HU0.out.trans HU3.out).trans' hu (fun x hx => .inr (by simp at hx; omega))
              have HR : Hid (Blk wr w.heap.size 361 zero16) := (HA0.out.upd HU3.out (by simp)).upd hu (by simp; omega)
              have hlt : gs < wr.heap.size := hB.lt
              have HBK := Lib.hid hB
              clear hB hu
              have HG : Hid (∀ i, md5At b i = ((blocksU T k).get (i / 4)).toNat / 2 ^ (8 * (i % 4)) % 256) := by
                intro i
                rw [md5At, hn, HN.out, HP.out]
              generalize blocksU T k = st at *
              have B3 := Blk.new wr 361 zero16
              have HB4 : Hid (Blk (wr.alloc (.cells zero16 361)) gs 372 st.irow) := HBK.out.alloc _
              have HR4 : Hid (Blk (wr.alloc (.cells zero16 361)) w.heap.size 361 zero16) := HR.out.alloc _
              have HU5 : Hid (Upd [] w (wr.alloc (.cells zero16 361))) := HUW.out.alloc _
              have hgl : w.heap.size < wr.heap.size := by omega
              clear HUW HR HBK HU3 HP HN HA0 HA1 HA2 HU0
              go_wp2_with fail
              rw [show (#[Value.int .u8 0, Value.int .u8 0, Value.int .u8 0, Value.int .u8 0, Value.int .u8 0, Value.int .u8 0, Value.int .u8 0, Value.int .u8 0, Value.int .u8 0, Value.int .u8 0, Value.int .u8 0, Value.int .u8 0, Value.int .u8 0, Value.int .u8 0, Value.int .u8 0, Value.int .u8 0] : Array Value) = zero16 from rfl]
              generalize wr.alloc (.cells zero16 361) = w5 at *
              generalize wr.heap.size = go at *
              go_loopg [19] 16 (fun m s19 wx => ∃ (j : Nat), j + m = 16 ∧ s19 = .int .i64 j ∧ Blk wx go 361 (mdRow b j) ∧ Upd [go] w5 wx)
              case atStart => exact ⟨0, rfl, rfl, B3, Upd.refl _ _⟩
              case round =>
                clear B3
                obtain ⟨j, hj, rfl, hB, hu⟩ := hrel
                by_cases t : j < 16
                · have cst : wr.cell? ⟨gs, j / 4, none⟩ = some (.int .i64 (st.get (j / 4)).toNat) := by
                    rw [(HB4.out.upd hu (by simp; omega)).cell]
                    have : j / 4 = 0 ∨ j / 4 = 1 ∨ j / 4 = 2 ∨ j / 4 = 3 := by omega
                    rcases this with h | h | h | h <;> rw [h] <;> rfl
                  have fo := hB.frozen j
                  have co : wr.cell? ⟨go, j, none⟩ = some (.int .u8 0) := by
                    rw [hB.cell, mdRow_get _ _ _ t, if_neg (by omega)]
                  have HE : Hid (((st.get (j / 4)).toNat : Int) / 2 ^ (8 * (j % 4)) % 256 = (md5At b j : Nat)) := by
                    show _ = _
                    rw [HG.out]
                    all_goals norm_cast
                  have hst := (st.get (j / 4)).isLt
                  generalize st.get (j / 4) = sj at *
                  have HB := Lib.hid hB
                  have HU := Lib.hid hu
                  clear hB hu
                  go_wp2_with fail
                  go_roundg (16 - (j + 1))
                  case rel =>
                    refine ⟨j + 1, by omega, by go_num, ?_, HU.out.setCell _ (.inl (by simp))⟩
                    rw [HE.out]
                    exact (HB.out.set_ j _).of_eq (mdRow_set b j t)
                  case measure => omega
                · obtain rfl : j = 16 := by omega
                  have hR := HR4.out.upd hu (by simp; omega)
                  have hUU : Upd [] w wr := HU5.out.trans' hu (fun x hx => .inr (by simp at hx; omega))
                  go_upto_region 39 with (fail)
                  refine wp_region_lit ?_
                  refine wpList_load_row rfl _ _ rfl go rfl _ _ _ _ hB Tryz.underlying361 rfl (by kernel_rfl) ?_
                  refine wpList_store_row rfl _ _ _ rfl w.heap.size _ rfl rfl _ _ hR (by kernel_rfl) (by simp [mdRow, zero16]) (by simp [mdRow, Value.oneCell']) ?_
                  have hB2 := hR.row_ (mdRow b 16)
                  have hu2 := hUU.setRow' (.inr (Nat.le_refl _)) (mdRow b 16)
                  generalize wr.setRow w.heap.size (mdRow b 16) = W at *
                  simp only [Act.put, Nat.zero_add, Nat.reduceAdd, List.setIfInBounds_toArray, List.set_cons_zero, List.set_cons_succ]
                  go_wp2_with fail
                  exact bodyPost_ret (results_cell_row rfl _ _ w.heap.size _ _ _ _ rfl (hB2.of_eq (mdRow_all b)) Tryz.underlying361 rfl (by kernel_rfl)) rfl ⟨rfl, hu2⟩
end Go.Proofs.YtglafpdealjlnaaGreat
