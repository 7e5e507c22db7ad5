/- The walk of the statement DataOrder. -/
import Derived.Test.YteflpekokgdllaaDataO
namespace Go.Proofs.Yteflpekokgdllaa
open Go.RowKit
set_option linter.unusedSimpArgs false
set_option linter.unusedVariables false
set_option maxRecDepth 20000

theorem info_ld : (Try.prog.info? 45).map (fun i => (i.zero, i.size, i.bytes)) = some (some (.agg #[.int .i64 0, .int .i64 0, .bool false, .int .i64 0, .int .i64 0, .string ⟨#[]⟩]), 6, 56) := by kernel_rfl
/-- Chapter 18's own Before at 2, 3. -/
theorem rbef_23 (w : World) : Calls Try.prog 22 #[.int .i64 2, .int .i64 3] w fun e w' => e = .returned (.bool true) ∧ w = w' := by
  have hmod : ∀ (n : Int), 0 ≤ n ∧ n < 65536 → ∀ W, Calls Try.prog 40 #[.int .i64 n] W fun e w' => e = .returned (.int .i64 n) ∧ W = w' := by
    intro n hn W
    have hm : n.tmod 65536 = n := Int.tmod_eq_of_lt hn.1 hn.2
    go_enter Try.func40, Try.ntmps40
    go_wp2_with fail
    go_ret
    exact ⟨rfl, rfl⟩
  have HM := Lib.hid hmod
  clear hmod
  go_enter Try.func22, Try.ntmps22
  go_wp2_with fail
  refine (HM.out 3 (by omega) _).mono ?_
  rintro e w1 ⟨rfl, rfl⟩
  go_wp2_with fail
  refine (HM.out 2 (by omega) _).mono ?_
  rintro e w1 ⟨rfl, rfl⟩
  go_wp2_with fail
  refine (HM.out 1 (by omega) _).mono ?_
  rintro e w1 ⟨rfl, rfl⟩
  go_wp2_with fail
  go_ret
  exact ⟨rfl, rfl⟩

set_option maxHeartbeats 8000000 in
set_option maxRecDepth 100000 in
theorem dataOrder_any (n : Int) (l : List Int) (v : Value) (fair : Bool) (w : World) (hl : IntsAt w v l) :
    Calls Try.prog 5 #[.int .i64 n, v, .bool fair] w fun e w' => e = .returned (.bool true) ∧ Upd [] w w' := by
  obtain ⟨aL, capL, rfl, hlc, hcm, -⟩ := id hl
  obtain ⟨L, hL⟩ : ∃ L, L = l.length := ⟨_, rfl⟩
  rw [← hL] at hl hlc ⊢
  have HIN := Lib.hid hl
  have HLL := Lib.hid hL
  simp only [maxLen] at hcm
  clear hl hL
  by_cases t1 : n < 0
  · go_enter Try.func5, Try.ntmps5
    go_wp2_with fail
    refine (dalive_any _).mono ?_
    rintro e w2 ⟨rfl, hu2⟩
    go_wp2_with fail
    go_ret
    exact ⟨rfl, hu2⟩
  by_cases t2 : 60 < n
  · go_enter Try.func5, Try.ntmps5
    go_wp2_with fail
    refine (dalive_any _).mono ?_
    rintro e w2 ⟨rfl, hu2⟩
    go_wp2_with fail
    go_ret
    exact ⟨rfl, hu2⟩
  by_cases t3 : (200 : Int) < L
  · go_enter Try.func5, Try.ntmps5
    go_wp2_with fail
    refine (dalive_any _).mono ?_
    rintro e w2 ⟨rfl, hu2⟩
    go_wp2_with fail
    go_ret
    exact ⟨rfl, hu2⟩
  obtain ⟨N, hN⟩ : ∃ N : Nat, (N : Int) = n := ⟨n.toNat, by omega⟩
  subst hN
  have hN60 : N ≤ 60 := by omega
  obtain ⟨j0, hj0, jz0, jz1, jz2⟩ := info_parts info_ld
  have HK1 : Hid (newOk 3 4 = true) := by show _ = _; decide
  have HK2 : Hid (newOk 5 6 = true) := by show _ = _; decide
  have h3 := new_any 3 4 true w
  simp only [HK1.out, ↓reduceIte] at h3
  have H3 := Lib.hid h3
  clear h3
  go_enter Try.func5, Try.ntmps5
  go_wp2_with fail
  refine H3.out.mono ?_
  rintro e w1 ⟨rfl, hw1, hu1⟩
  obtain ⟨a, ha⟩ : ∃ a, a = w.heap.size := ⟨_, rfl⟩
  have HA1 : Hid (WyAt w1 a (Wy.at 3 4 true 0)) := by rw [ha]; exact hw1
  have HU1 := Lib.hid hu1
  have hal : a < w1.heap.size := Blk.lt HA1.out
  rw [← ha]
  have HAA : Hid (w.heap.size ≤ a) := by show _ ≤ _; omega
  clear hw1 hu1 ha
  go_wp2_with fail
  have h4 := new_any 5 6 true w1
  simp only [HK2.out, ↓reduceIte] at h4
  refine h4.mono ?_
  rintro e w2 ⟨rfl, hw2, hu2⟩
  obtain ⟨b, hb⟩ : ∃ b, b = w1.heap.size := ⟨_, rfl⟩
  have HB2 : Hid (WyAt w2 b (Wy.new 5 6 true)) := by rw [hb]; exact hw2
  have HA2 : Hid (WyAt w2 a (Wy.at 3 4 true 0)) := HA1.out.upd hu2 (by simp)
  have hab : a < b := by omega
  have hbl : b < w2.heap.size := Blk.lt HB2.out
  have HU2 : Hid (Upd [] w w2) := HU1.out.trans hu2
  rw [← hb]
  clear hw2 hu2 hb h4 hal
  go_wp2_with fail
  go_loopg [11, 12] N (fun m s11 s12 wr => ∃ (k : Nat) (ao : Option Addr) (cap : Nat) (own : List Nat), k + m = N ∧ s12 = .int .i64 k ∧ s11 = .slice ao k cap ∧ Own wr 45 6 (.slice ao k cap) k (ldCells (lds k)) own ∧ (∀ y, y ∈ own → w2.heap.size ≤ y) ∧ WyAt wr a (Wy.at 3 4 true k) ∧ WyAt wr b (Wy.new 5 6 true) ∧ Upd [] w wr ∧ w2.heap.size ≤ wr.heap.size)
  case atStart => exact ⟨0, none, 0, [], by omega, rfl, rfl, Own.nil _ _ _, by simp, HA2.out, HB2.out, HU2.out, Nat.le_refl _⟩
  case round =>
    obtain ⟨k, ao, cap, own, hk, rfl, rfl, ho, hi, hwa, hwb, hu, hsz⟩ := hrel
    have HO := Lib.hid ho
    have HI := Lib.hid hi
    have HA := Lib.hid hwa
    have HB := Lib.hid hwb
    have HU := Lib.hid hu
    have hkN : k ≤ N := by omega
    clear ho hi hwa hwb hu
    by_cases tk : k < N
    · have hk8 : True → IntKind.u8.wrap (k : Int) = k := fun _ => by
        have : (k : Int) % 256 = k := by omega
        simp [IntKind.wrap, IntKind.bits, IntKind.signed, this]
      have hk8' : (k : Int) % 256 = k := by omega
      have hcv := str1 (P := Try.prog) (dst := 9) Try.underlying59 Try.underlying5 Try.underlying9 (Blk.new wr 5 #[.int .u8 k])
      rw [show strOfNums [(k : Int)] = bI k from rfl] at hcv
      have HA2 : Hid (WyAt (wr.alloc (.cells #[.int .u8 k] 5)) a (Wy.at 3 4 true k)) := Blk.alloc _ HA.out
      have UX : Upd [] wr (wr.alloc (.cells #[.int .u8 k] 5)) := (Upd.refl _ _).alloc _
      have HB2 : Hid (WyAt (wr.alloc (.cells #[.int .u8 k] 5)) b (Wy.new 5 6 true)) := Blk.alloc _ HB.out
      have HO2 := Lib.hid (HO.out.upd UX (by simp))
      have HU2' := Lib.hid (HU.out.trans UX)
      have hsz2 : w2.heap.size ≤ (wr.alloc (.cells #[.int .u8 k] 5)).heap.size := Nat.le_trans hsz UX.size
      clear UX
      go_wp2_with fail
      refine (wayPut_any a (Wy.at 3 4 true k) (bI k) _ HA2.out (at_ok HK1.out (by omega)) (by rw [bI_size]; decide)).mono ?_
      rintro e w3 ⟨rfl, hw3, hu3⟩
      rw [at_lay (by omega) _ (by rw [bI_size]; decide)] at hw3 ⊢
      rw [ldI_load]
      have HA3 := Lib.hid hw3
      have HB3 : Hid (WyAt w3 b (Wy.new 5 6 true)) := HB2.out.upd hu3 (by simp; omega)
      have HO3 := Lib.hid (HO2.out.upd hu3 (fun y hy => by have := HI.out y hy; simp; omega))
      have HU3 : Hid (Upd [] w w3) := HU2'.out.trans' hu3 (fun y hy => .inr (by have := HAA.out; simp at hy; omega))
      have hsz3 : w2.heap.size ≤ w3.heap.size := Nat.le_trans hsz2 hu3.size
      clear hw3 hu3 hcv HA2 HB2 HO2 HU2'
      go_wp2_with fail
      refine ((ldI_load k ▸ getLoad_way (Wy.at 3 4 true k) (bI k) (at_ok HK1.out (by omega)) (by rw [bI_size]; decide) _ : Calls Try.prog 20 #[.string (ldI k).bytes] _ fun e w' => e = .returned (.tuple #[(ldI k).agg, .int .i64 0]) ∧ Upd [] _ w')).mono ?_
      rintro e w4 ⟨rfl, hu4⟩
      rw [show (ldI k).agg = .agg #[.int .i64 3, .int .i64 4, .bool true, .int .i64 k, .int .i64 0, .string (bI k)] from rfl]
      have UX : Upd [] w3 ((w4.alloc (.cells #[.int .i64 3, .int .i64 4, .bool true, .int .i64 k, .int .i64 0, .string (bI k)] 45)).alloc (.cells #[.int .i64 3, .int .i64 4, .bool true, .int .i64 k, .int .i64 0, .string (bI k)] 45)) := (hu4.alloc _).alloc _
      have HA4 : Hid (WyAt ((w4.alloc (.cells #[.int .i64 3, .int .i64 4, .bool true, .int .i64 k, .int .i64 0, .string (bI k)] 45)).alloc (.cells #[.int .i64 3, .int .i64 4, .bool true, .int .i64 k, .int .i64 0, .string (bI k)] 45)) a (Wy.at 3 4 true (k + 1))) := HA3.out.upd UX (by simp)
      have HB4 : Hid (WyAt ((w4.alloc (.cells #[.int .i64 3, .int .i64 4, .bool true, .int .i64 k, .int .i64 0, .string (bI k)] 45)).alloc (.cells #[.int .i64 3, .int .i64 4, .bool true, .int .i64 k, .int .i64 0, .string (bI k)] 45)) b (Wy.new 5 6 true)) := HB3.out.upd UX (by simp)
      have HO4 := Lib.hid (HO3.out.upd UX (by simp))
      have HU4 := Lib.hid (HU3.out.trans UX)
      have hsz4 : w2.heap.size ≤ ((w4.alloc (.cells #[.int .i64 3, .int .i64 4, .bool true, .int .i64 k, .int .i64 0, .string (bI k)] 45)).alloc (.cells #[.int .i64 3, .int .i64 4, .bool true, .int .i64 k, .int .i64 0, .string (bI k)] 45)).heap.size := Nat.le_trans hsz3 UX.size
      have hr4 := ld_rd (w4.alloc (.cells #[.int .i64 3, .int .i64 4, .bool true, .int .i64 k, .int .i64 0, .string (bI k)] 45)) (ldI k)
      have hs4 : (w4.alloc (.cells #[.int .i64 3, .int .i64 4, .bool true, .int .i64 k, .int .i64 0, .string (bI k)] 45)).heap.size = w4.heap.size + 1 := by simp
      rw [hs4] at hr4
      have HR4 := Lib.hid hr4
      clear UX hu4 hr4 hs4
      simp only [ldI] at HR4
      go_wp2_with (first
        | (at_builtin; refine wpList_append_Rd _ rfl (.tmp 106) (.tmp 108) 58 rfl 45 j0 _ 6 56 Try.underlying58 hj0 jz0 jz1 jz2 rfl (by decide) _ k _ _ (by simp [Act.eval]) HO4.out _ 1 _ (by simp [Act.eval]) HR4.out (by simp only [maxLen]; omega) (by omega) ?_; intro ao1 cap1 w6 own1 ho1 hin1 hu6; have HS6 := Lib.hid ho1; have HI6 := Lib.hid hin1; have HU6 := Lib.hid hu6; clear ho1 hin1 hu6))
      go_roundg (N - (k + 1))
      case rel =>
        refine ⟨k + 1, ao1, cap1, own1, by omega, by go_num, rfl, ?_, fun y hy => ?_, ?_, ?_, ?_, ?_⟩
        · rw [lds_succ, ldCells_append]; exact HS6.out
        · exact (HI6.out y hy).elim (fun h => HI.out y h) (fun h => Nat.le_trans hsz4 h)
        · exact HA4.out.upd HU6.out (fun h => by have := HI.out _ h; omega)
        · exact HB4.out.upd HU6.out (fun h => by have := HI.out _ h; omega)
        · exact HU4.out.trans' HU6.out (fun y hy => .inr (Nat.le_trans HU2.out.size (HI.out y hy)))
        · exact Nat.le_trans hsz4 HU6.out.size
      case measure => omega
    · have HKE : Hid (k = N) := by show _ = _; omega
      have hnb : ∀ y, y ∈ own → y ≠ b := fun y hy => by have := HI.out y hy; omega
      have HNB := Lib.hid hnb
      clear hnb
      cases fair with
      | true =>
        have HF0 : Hid (WyAt wr b (Wy.fair 0)) := HB.out
        go_wp2_with fail
        go_loopg [19] N (fun m s19 wx => ∃ j : Nat, j + m = N ∧ s19 = .int .i64 j ∧ WyAt wx b (Wy.fair j) ∧ Own wx 45 6 (.slice ao k cap) k (ldCells (lds k)) own ∧ Upd [] w wx)
        case atStart => exact ⟨0, by omega, rfl, HF0.out, HO.out, HU.out⟩
        case round =>
          obtain ⟨j, hj, rfl, hwb, ho, hu⟩ := hrel
          have HBj := Lib.hid hwb
          have HOj := Lib.hid ho
          have HUj := Lib.hid hu
          clear hwb hu
          by_cases tj : j < N
          · have hjk : j < k := by have := HKE.out; omega
            obtain ⟨q, rfl, c0, c1, c2, c3, c4, c5⟩ := ld_own ho (lds_get hjk) hjk
            have HG := Lib.hid (fair_get (show j < 1000 by omega))
            simp only [ldI] at c0 c1 c2 c3 c4 c5
            clear ho
            go_wp2_with fail
            refine (wayGet_any b (Wy.fair j) (ldI j) _ HBj.out (fair_ok (by omega))).mono ?_
            rintro e wy ⟨rfl, hwy, huy⟩
            rw [HG.out] at hwy ⊢
            have HBy := Lib.hid hwy
            have HOy := Lib.hid (HOj.out.upd huy (fun y hy => by have := HNB.out y hy; simp; omega))
            have HUy : Hid (Upd [] w wy) := HUj.out.trans' huy (fun y hy => .inr (by have := HAA.out; simp at hy; omega))
            clear hwy huy
            go_wp2_with fail
            go_roundg (N - (j + 1))
            case rel => exact ⟨j + 1, by omega, by go_num, HBy.out, HOy.out, HUy.out⟩
            case measure => omega
          · obtain rfl : j = N := by omega
            go_wp2_with fail
            refine (dalive_any _).mono ?_
            rintro e wz ⟨rfl, huz⟩
            go_wp2_with fail
            go_ret
            exact ⟨rfl, HUj.out.trans huz⟩
      | false =>
        have HS0 : Hid (Hears N (Wy.new 5 6 true) (-1) 0) := hears_new N
        go_wp2_with fail
        go_loopg [17, 18, 22] L (fun m s17 s18 s22 wx => ∃ (j : Nat) (y : Wy) (lst took : Int), j + m = L ∧ s22 = .int .i64 j ∧ s17 = .int .i64 lst ∧ s18 = .int .i64 took ∧ Hears N y lst took ∧ WyAt wx b y ∧ Own wx 45 6 (.slice ao k cap) k (ldCells (lds k)) own ∧ Upd [] w wx)
        case atStart => exact ⟨0, _, _, _, by omega, rfl, rfl, rfl, HS0.out, HB.out, HO.out, HU.out⟩
        case round =>
          obtain ⟨j, y, lst, took, hj, rfl, rfl, rfl, hh, hwb, ho, hu⟩ := hrel
          have HBj := Lib.hid hwb
          have HOj := Lib.hid ho
          have HUj := Lib.hid hu
          have HH := Lib.hid hh
          have hjL : j ≤ L := by omega
          clear hwb hh
          have hend : j = L ∨ N = 0 ∨ (j < L ∧ 0 < N) := by omega
          rcases hend with tj | tj | ⟨tj, tN⟩
          · have htk : took ≤ (N : Int) := by have := HH.out.took; have := HH.out.bd; omega
            subst tj
            clear ho hu
            go_wp2_with fail
            refine (dalive_any _).mono ?_
            rintro e wz ⟨rfl, huz⟩
            go_wp2_with (first
              | (go_at_call 21; refine (bef_any _ _ _).mono ?_; rintro e w' ⟨rfl, rfl⟩; rw [show bef 3 3 = false from rfl])
              | (go_at_call 22; refine (rbef_23 _).mono ?_; rintro e w' ⟨rfl, rfl⟩))
            go_ret
            exact ⟨rfl, HUj.out.trans huz⟩
          · have htk : took ≤ (0 : Int) := by have := HH.out.took; have := HH.out.bd; omega
            subst tj
            clear ho hu
            by_cases tjL : j < L
            focus
              have tjL' : (j : Int) < L := by omega
              go_wp2_with fail
            rotate_left
            focus
              have tjL' : ¬ (j : Int) < L := by omega
              go_wp2_with fail
            all_goals
              refine (dalive_any _).mono ?_
              rintro e wz ⟨rfl, huz⟩
              go_wp2_with (first
                | (go_at_call 21; refine (bef_any _ _ _).mono ?_; rintro e w' ⟨rfl, rfl⟩; rw [show bef 3 3 = false from rfl])
                | (go_at_call 22; refine (rbef_23 _).mono ?_; rintro e w' ⟨rfl, rfl⟩))
              go_ret
              exact ⟨rfl, HUj.out.trans huz⟩
          · obtain ⟨pv, hpv⟩ : ∃ x, l[j]? = some x := ⟨_, List.getElem?_eq_getElem (by have := HLL.out; omega)⟩
            obtain ⟨aL', capL', e0, -, -, h3⟩ := HIN.out.upd hu
            injection e0 with e0 e1 e2
            subst e0 e2
            clear e1
            obtain ⟨qp, rfl, cp⟩ := h3 j pv hpv
            clear h3 hu hpv
            obtain ⟨jp, hjp, hrem⟩ := pick_range pv N tN
            have hjk : jp < k := by have := HKE.out; omega
            obtain ⟨q, rfl, c0, c1, c2, c3, c4, c5⟩ := ld_own ho (lds_get hjk) hjk
            have hN0 : (N : Int) ≠ 0 := by omega
            simp only [ldI] at c0 c1 c2 c3 c4 c5
            have HBd : Hid (WyAt (wr.alloc (.cells #[.int .i64 3, .int .i64 4, .bool true, .int .i64 jp, .int .i64 0, .string (bI jp)] 45)) b y) := Blk.alloc _ HBj.out
            have UX : Upd [] wr (wr.alloc (.cells #[.int .i64 3, .int .i64 4, .bool true, .int .i64 jp, .int .i64 0, .string (bI jp)] 45)) := (Upd.refl _ _).alloc _
            have HX := Lib.hid (Blk.new wr 45 #[.int .i64 3, .int .i64 4, .bool true, .int .i64 jp, .int .i64 0, .string (bI jp)])
            have HOd := Lib.hid (HOj.out.upd UX (by simp))
            have HUd := Lib.hid (HUj.out.trans UX)
            have hbx : b < wr.heap.size := Blk.lt HBj.out
            have hby := bI_size jp
            have hbyt := bI_byte jp (by omega)
            rcases hears_get hN60 HH.out hjp with ⟨hlt, y', hg, hh'⟩ | ⟨hlt, y', hg, hh'⟩
            · have HG := Lib.hid hg
              have HH' := Lib.hid hh'
              have hp0 : 0 < (bI jp).size := by omega
              have q0 : (((bI jp)[0]'hp0).toNat : Int) = jp := by rw [byte_get _ 0 hp0]; exact hbyt
              have hw8 : True → wrap64 (jp : Int) = jp := fun _ => IntWalk.wrap64_in _ (by omega)
              clear ho UX hg hh' hbyt
              go_wp2_with fail
              refine (wayGet_any b y (ldI jp) _ HBd.out HH.out.ok).mono ?_
              rintro e wy ⟨rfl, hwy, huy⟩
              rw [HG.out] at hwy ⊢
              have HBy := Lib.hid hwy
              have HOy := Lib.hid (HOd.out.upd huy (fun y hy => by have := HNB.out y hy; simp; omega))
              have HUy : Hid (Upd [] w wy) := HUd.out.trans' huy (fun y hy => .inr (by have := HAA.out; simp at hy; omega))
              have htw : True → wrap64 (took + 1) = took + 1 := fun _ => IntWalk.wrap64_in _ (by have := HH.out.took; have := HH.out.bd; omega)
              clear hwy huy
              go_wp2_with fail
              go_roundg (L - (j + 1))
              case rel => exact ⟨j + 1, y', jp, took + 1, by omega, by go_num, rfl, by rw [htw trivial], HH'.out, HBy.out, HOy.out, HUy.out⟩
              case measure => omega
            · have HG := Lib.hid hg
              have HH' := Lib.hid hh'
              clear ho UX hg hh' hbyt
              go_wp2_with fail
              refine (wayGet_any b y (ldI jp) _ HBd.out HH.out.ok).mono ?_
              rintro e wy ⟨rfl, hwy, huy⟩
              rw [HG.out] at hwy ⊢
              have HBy := Lib.hid hwy
              have HOy := Lib.hid (HOd.out.upd huy (fun y hy => by have := HNB.out y hy; simp; omega))
              have HUy : Hid (Upd [] w wy) := HUd.out.trans' huy (fun y hy => .inr (by have := HAA.out; simp at hy; omega))
              have x3 := (HX.out.upd huy (by simp; omega)).cell 3
              simp at x3
              have hlt' : ¬ lst < (jp : Int) := by omega
              clear hwy huy
              go_wp2_with fail
              go_roundg (L - (j + 1))
              case rel => exact ⟨j + 1, y', lst, took, by omega, by go_num, rfl, rfl, HH'.out, HBy.out, HOy.out, HUy.out⟩
              case measure => omega
open Go.ChangeShapes Go.WideShapes in
theorem dataOrder_walk {H : Type} {enc : TypeId × Value → H} (n : Int) (_ : (Lit.int .i64 n).wf = true) {v1 : Value} {d1 : DataW H} {p1 : List MemPlace} {W : World} {base : Nat}
    (h1 : DataW.Trod enc Try.prog W 0 (fun _ => true) true 57 v1 d1 p1) (o1 : Value.okWide Try.prog W .any base 57 v1) (fair : Bool) :
    Calls Try.prog 5 #[.int .i64 n, v1, .bool fair] W fun e w' => e = .returned (.bool true) ∧ Below W.heap.size W w' := by
  obtain ⟨l, hl⟩ := ints_in h1 o1
  exact (dataOrder_any n l v1 fair W hl).mono fun e w' ⟨he, hu⟩ => ⟨he, hu.below⟩
end Go.Proofs.Yteflpekokgdllaa
