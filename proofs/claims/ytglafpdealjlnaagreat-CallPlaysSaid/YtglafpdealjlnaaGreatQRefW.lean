/- The walks of the document's own Low, Two, Num. The walks of the document's own Find, Num, Same (chapter 18), text (chapter 20). The walk of the document's own Number (chapter 18). The walk of the document's own Length (chapter 18). Printed by gen/rlen.py. -/
import Derived.Test.YtglafpdealjlnaaGreatQLib
import Derived.Test.YtglafpdealjlnaaGreatQRely
import Derived.Test.YtglafpdealjlnaaGreatQLen
namespace Go.Proofs.YtglafpdealjlnaaGreat
open Go.RowKit
set_option linter.unusedSimpArgs false
set_option linter.unusedVariables false
set_option maxRecDepth 100000

theorem pow8_succ (v : Int) (k : Nat) : v / 2 ^ (8 * k) / 256 = v / 2 ^ (8 * (k + 1)) := by
  have e1 : (2 : Int) ^ (8 * (k + 1)) = 2 ^ (8 * k) * 256 := by rw [Nat.mul_add, Int.pow_add]; rfl
  rw [e1, Int.ediv_ediv_of_nonneg (Int.pow_nonneg (by decide))]
set_option maxHeartbeats 1000000 in
theorem rlow_all (v : Int) (n : Nat) (h1 : 1 ≤ n) (hn : n ≤ 1000) (hv : -9223372036854775808 ≤ v ∧ v ≤ 9223372036854775807) (w : World) :
    Calls Tryz.prog 241 #[.int .i64 v, .int .i64 n] w fun e w' => e = .returned (.string (be n v)) ∧ Upd [] w w' := by
  have info5 : (Tryz.prog.info? 5).map (fun i => (i.zero, i.size, i.bytes)) = some (some (.int .u8 0), 1, 1) := by kernel_rfl
  have hmk := run_make_row' (P := Tryz.prog) 151 5 (.int .u8 0) 1 Tryz.underlying151 info5 rfl .i64 .i64 n (by omega) (by omega)
  obtain ⟨v0, v1⟩ := hv
  go_enter Tryz.func241, Tryz.ntmps241
  go_wp2_with fail
  go_loopg [0, 6] n (fun m s0 s6 wr => ∃ (k : Nat) (x y : Int), k + m = n ∧ s0 = .int .i64 x ∧ s6 = .int .i64 y ∧ y = n - 1 - k ∧ x = v / 2 ^ (8 * k) ∧ -9223372036854775808 ≤ x ∧ x ≤ 9223372036854775807 ∧ Upd [] w wr ∧ wr.rowIs w.heap.size 5 n (fun j => .int .u8 (if n ≤ j + k then byteAt v n j else 0)))
  case atStart =>
    refine ⟨0, v, _, by omega, rfl, rfl, by omega, by simp, v0, v1, (Upd.refl _ _).alloc _, ?_⟩
    refine (World.rowIs_made w (.int .u8 0) n 5).congr fun j hj => ?_
    rw [if_neg (by omega)]
  case round =>
    obtain ⟨k, x, y, hk, rfl, rfl, hy, hx, x0, x1, hu, hr⟩ := hrel
    by_cases t : k < n
    · obtain ⟨i, rfl⟩ : ∃ i : Nat, y = i := ⟨n - 1 - k, by omega⟩
      have hi : i = n - 1 - k := by omega
      have hf := hr.frozen i
      have hc := hr.cell (i := i) (by omega)
      have HX := Lib.hid hx
      have HI := Lib.hid hi
      have HU := Lib.hid hu
      have HR := Lib.hid hr
      have hin : (i : Int) < n := by omega
      have hi0 : (0 : Int) ≤ i := by omega
      have hin' : i < n := by omega
      have hx2 : -9223372036854775808 ≤ x / 256 ∧ x / 256 ≤ 9223372036854775807 := by omega
      clear hx hi hy hu hr
      go_wp2_with fail
      go_roundg (n - (k + 1))
      case rel =>
        have hi := HI.out
        refine ⟨k + 1, _, _, by omega, rfl, rfl, by omega, by rw [HX.out, pow8_succ], hx2.1, hx2.2, HU.out.setCell _ (.inr (Nat.le_refl _)), ?_⟩
        refine (HR.out.set _ _).congr fun j hj => ?_
        by_cases hjk : j = i
        · subst hjk
          rw [if_pos rfl, if_pos (by omega), byteAt, show n - 1 - j = k by omega, ← HX.out]
        · rw [if_neg hjk]
          by_cases h2 : n ≤ j + k
          · rw [if_pos h2, if_pos (by omega)]
          · rw [if_neg h2, if_neg (by omega)]
      case measure => omega
    · obtain rfl : k = n := by omega
      obtain rfl : y = -1 := by omega
      have hcv := run_convert_bytes_arg (P := Tryz.prog) wr 151 5 Tryz.underlying151 Tryz.underlying5 w.heap.size 0 k k ((List.range k).map (byteAt v k)) (by simp) (fun i hi => by rw [Nat.zero_add, hr.cell hi]; simp [hi]) 9 Tryz.underlying9
      have HU := Lib.hid hu
      clear hx hy hu hr
      go_wp2_with fail
      go_ret
      exact ⟨rfl, HU.out⟩
theorem rlow_any (v : Int) (n : Nat) (h1 : 1 ≤ n) (hn : n ≤ 1000) (hv : 0 ≤ v ∧ v < 4611686018427387904) (w : World) :
    Calls Tryz.prog 241 #[.int .i64 v, .int .i64 n] w fun e w' => e = .returned (.string (be n v)) ∧ Upd [] w w' := rlow_all v n h1 hn (by omega) w
theorem rtwo_any (v : Int) (h : 0 ≤ v ∧ v < 4611686018427387904) (w : World) : Calls Tryz.prog 100 #[.int .i64 v] w fun e w' => e = .returned (.string (be 2 v)) ∧ Upd [] w w' := by
  go_enter Tryz.func100, Tryz.ntmps100
  go_wp2_with fail
  refine (rlow_any v 2 (by omega) (by omega) h _).mono ?_
  rintro e w1 ⟨rfl, hu⟩
  go_wp2_with fail
  go_ret
  exact ⟨rfl, hu⟩
set_option maxHeartbeats 1000000 in
theorem rnum_quiet (s : ByteArray) (i : Nat) (hs : s.size ≤ maxLen) (hv : i + 2 ≤ s.size) (w : World) :
    Calls Tryz.prog 88 #[.string s, .int .i64 i] w fun e w' => e = .returned (.int .i64 (num s i 2)) ∧ ∃ x, w' = w.drewN x := by
  simp only [maxLen] at hs
  have q0 := byte_get s i (by omega)
  have q1 := byte_get s (i + 1) (by omega)
  have b0 := byte_bd s i
  have b1 := byte_bd s (i + 1)
  have HN : Hid (byte s i * 256 + byte s (i + 1) = num s i 2) := by show _ = _; simp [num]
  generalize byte s i = y0 at *
  generalize byte s (i + 1) = y1 at *
  have w1 : IntKind.i64.wrap ((i : Int) + 1) = (i : Int) + 1 := IntWalk.i64_in _ (by omega)
  have w2 : ((i : Int) + 1).toNat = i + 1 := by omega
  have w3 : True → IntKind.i64.wrap y0 = y0 := fun _ => IntWalk.i64_in _ (by omega)
  have w4 : True → IntKind.i64.wrap y1 = y1 := fun _ => IntWalk.i64_in _ (by omega)
  go_enter Tryz.func88, Tryz.ntmps88
  go_wp2_with fail
  go_quiet (fail)
  go_wp2_with fail
  go_ret
  refine ⟨?_, _, rfl⟩
  rw [← HN.out]
  rfl
theorem rnum_any (s : ByteArray) (i : Nat) (hs : s.size ≤ maxLen) (hv : i + 2 ≤ s.size) (w : World) :
    Calls Tryz.prog 88 #[.string s, .int .i64 i] w fun e w' => e = .returned (.int .i64 (num s i 2)) ∧ Upd [] w w' :=
  (rnum_quiet s i hs hv w).mono fun e w' ⟨h1, x, h2⟩ => ⟨h1, h2 ▸ (Upd.refl _ _).drewN x⟩
end Go.Proofs.YtglafpdealjlnaaGreat
namespace Go.Proofs.YtglafpdealjlnaaGreat
open Go.RowKit
set_option linter.unusedSimpArgs false
set_option linter.unusedVariables false
set_option maxRecDepth 100000

set_option maxHeartbeats 1000000 in
theorem rfind18_any (l : List Av) (v : Value) (kind : Int) (w : World) (hl : AvsAt w v l) :
    Calls Tryz.prog 95 #[v, .int .i64 kind] w fun e w' => e = .returned (.tuple #[.string (findAv kind l).1, .bool (findAv kind l).2]) ∧ Upd [] w w' := by
  obtain ⟨r0, r1, hr⟩ : ∃ a b, findAv kind l = (a, b) := ⟨_, _, rfl⟩
  rw [hr]
  have HR := Lib.hid hr
  clear hr
  obtain ⟨ao, cap, rfl, h1, h2, h3⟩ := id hl
  obtain ⟨n, hn⟩ : ∃ n, n = l.length := ⟨_, rfl⟩
  rw [← hn] at h1
  rw [← hn]
  have HL := Lib.hid hl
  have HN := Lib.hid hn
  simp only [maxLen] at h2
  clear h3 hl hn
  go_enter Tryz.func95, Tryz.ntmps95
  go_wp2_with fail
  go_loopg [6] n (fun m s6 wr => ∃ k : Nat, k + m = n ∧ s6 = .int .i64 k ∧ l.find? (avIs kind) = (l.drop k).find? (avIs kind) ∧ Upd [] w wr)
  case atStart => exact ⟨0, by omega, rfl, rfl, Upd.refl _ _⟩
  case round =>
    obtain ⟨k, hk, rfl, hf, hu⟩ := hrel
    by_cases t : k < n
    · obtain ⟨x, hx⟩ : ∃ x, l[k]? = some x := by
        have := HN.out
        exact ⟨_, List.getElem?_eq_getElem (by omega)⟩
      obtain ⟨ao', cap', e0, _, _, h3⟩ := HL.out.upd hu
      injection e0 with e0 _ e2
      subst e0 e2
      obtain ⟨q, rfl, c0, c1, c2, c3, c4⟩ := h3 k x hx
      clear h3
      have hd : l.drop k = x :: l.drop (k + 1) := by
        obtain ⟨h5, h6⟩ := List.getElem?_eq_some_iff.1 hx
        rw [List.drop_eq_getElem_cons h5, h6]
      rw [hd, List.find?_cons] at hf
      have HU := Lib.hid hu
      clear hd hu hx
      cases t0 : (x.vendor == 0)
      · have e1 : avIs kind x = false := by unfold avIs; rw [t0]; rfl
        rw [e1] at hf
        have HF := Lib.hid hf
        clear hf e1
        go_wp2_with fail
        go_roundg (n - (k + 1))
        case rel => exact ⟨k + 1, by omega, by go_num, HF.out, HU.out⟩
        case measure => omega
      · cases t1 : (x.kind == kind)
        · have e1 : avIs kind x = false := by unfold avIs; rw [t0, t1]; rfl
          rw [e1] at hf
          have HF := Lib.hid hf
          clear hf e1
          go_wp2_with fail
          go_roundg (n - (k + 1))
          case rel => exact ⟨k + 1, by omega, by go_num, HF.out, HU.out⟩
          case measure => omega
        · have e1 : avIs kind x = true := by unfold avIs; rw [t0, t1]; rfl
          rw [e1] at hf
          have h9 := HR.out
          rw [findAv, hf] at h9
          injection h9 with h9 h10
          subst h9 h10
          clear hf e1
          go_wp2_with fail
          go_ret2
          exact ⟨rfl, HU.out⟩
    · obtain rfl : k = n := by omega
      have hd : l.drop k = [] := by rw [HN.out]; simp
      rw [hd] at hf
      have h9 := HR.out
      rw [findAv, hf] at h9
      simp only [List.find?_nil] at h9
      injection h9 with h9 h10
      subst h9 h10
      clear hf hd
      go_wp2_with fail
      go_ret2
      exact ⟨rfl, hu⟩
set_option maxHeartbeats 1000000 in
theorem rnum18_any (kind v : Int) (n : Nat) (hn : 1 ≤ n ∧ n ≤ 8) (hv : -9223372036854775808 ≤ v ∧ v ≤ 9223372036854775807) (w : World) :
    Calls Tryz.prog 96 #[.int .i64 kind, .int .i64 v, .int .i64 n] w fun e w' => e = .returned (numAv kind v n).agg ∧ Upd [] w w' := by
  have h1 : (1 : Int) ≤ n := by omega
  have h2 : (n : Int) ≤ 8 := by omega
  have HV := Lib.hid hv
  obtain ⟨wz, hwz⟩ : ∃ wz, wz = (w.alloc (.cells #[.bool false, .bool false, .int .i64 0, .int .i64 0, .string ⟨#[]⟩] 85)).alloc (.cells #[.bool true, .bool false, .int .i64 0, .int .i64 kind, .string ⟨#[]⟩] 85) := ⟨_, rfl⟩
  have HB6 : Hid (Blk wz w.heap.size 85 #[.bool false, .bool false, .int .i64 0, .int .i64 0, .string ⟨#[]⟩]) := by show Blk _ _ _ _; rw [hwz]; exact (Blk.new _ _ _).alloc _
  have HB7 : Hid (Blk wz (w.heap.size + 1) 85 #[.bool true, .bool false, .int .i64 0, .int .i64 kind, .string ⟨#[]⟩]) := by
    show Blk _ _ _ _
    have h := Blk.new (w.alloc (.cells #[.bool false, .bool false, .int .i64 0, .int .i64 0, .string ⟨#[]⟩] 85)) 85 #[.bool true, .bool false, .int .i64 0, .int .i64 kind, .string ⟨#[]⟩]
    rw [show (w.alloc (.cells #[.bool false, .bool false, .int .i64 0, .int .i64 0, .string ⟨#[]⟩] 85)).heap.size = w.heap.size + 1 by simp] at h
    rw [hwz]
    exact h
  have HU : Hid (Upd [] w wz) := by show Upd _ _ _; rw [hwz]; exact ((Upd.refl _ _).alloc _).alloc _
  have HWZ := Lib.hid hwz
  clear hwz hv
  go_enter Tryz.func96, Tryz.ntmps96
  go_wp2_with fail
  rw [← HWZ.out]
  refine (rlow_all v n hn.1 (by omega) HV.out _).mono ?_
  rintro e w1 ⟨rfl, hu1⟩
  have b6 := HB6.out.upd hu1 (by simp)
  have b7 := HB7.out.upd hu1 (by simp)
  obtain ⟨B, hB⟩ : ∃ B, B = be n v := ⟨_, rfl⟩
  rw [← hB]
  have c0 := b7.cell 0
  have c1 := b7.cell 1
  have c2 := b7.cell 2
  have c3 := b7.cell 3
  have c4 := b7.cell 4
  have f4 := b7.frozen 4
  have d0 := b6.cell 0
  have d1 := b6.cell 1
  have d2 := b6.cell 2
  have d3 := b6.cell 3
  have d4 := b6.cell 4
  have g0 := b6.frozen 0
  have g1 := b6.frozen 1
  have g2 := b6.frozen 2
  have g3 := b6.frozen 3
  have g4 := b6.frozen 4
  simp only [List.size_toArray, List.length_cons, List.length_nil, List.getElem?_toArray, List.getElem?_cons_zero, List.getElem?_cons_succ] at c0 c1 c2 c3 c4 d0 d1 d2 d3 d4
  have hlt6 := b6.lt
  have hlt7 := b7.lt
  have HE : Hid ((numAv kind v n).agg = .agg #[.bool true, .bool false, .int .i64 0, .int .i64 kind, .string B]) := by show _ = _; rw [hB]; rfl
  have HU1 := Lib.hid (HU.out.trans hu1)
  clear hB hu1 b6 b7
  go_wp2_with fail
  exact bodyPost_ret (v := .agg #[.bool true, .bool false, .int .i64 0, .int .i64 kind, .string B]) (by simp [results, Tryz.results96, go_sem, c0, c1, c2, c3, d0, d1, d2, d3, d4]) rfl ⟨by rw [HE.out], by repeat (with_reducible first | refine Upd.setCell _ ?_ (.inr (by simp)) | exact HU1.out)⟩
theorem rtext_any (kind : Int) (s : ByteArray) (w : World) :
    Calls Tryz.prog 185 #[.int .i64 kind, .string s] w fun e w' => e = .returned (.agg #[.bool true, .bool false, .int .i64 0, .int .i64 kind, .string s]) ∧ Upd [] w w' := by
  go_enter Tryz.func185, Tryz.ntmps185
  go_wp2_with fail
  exact bodyPost_ret (v := .agg #[.bool true, .bool false, .int .i64 0, .int .i64 kind, .string s]) (by simp [results, Tryz.results185, go_sem]) rfl ⟨rfl, by repeat (with_reducible first | refine Upd.setCell _ ?_ (.inr (by simp)) | refine Upd.alloc _ ?_ | exact Upd.refl _ _)⟩
end Go.Proofs.YtglafpdealjlnaaGreat
namespace Go.Proofs.YtglafpdealjlnaaGreat
open Go.RowKit
set_option linter.unusedSimpArgs false
set_option linter.unusedVariables false
set_option maxRecDepth 100000

set_option maxHeartbeats 1000000 in
theorem rnumber18_any (l : List Av) (v : Value) (kind : Int) (w : World) (hl : AvsAt w v l) (hs : ∀ t ∈ l, t.val.size ≤ maxLen) :
    Calls Tryz.prog 188 #[v, .int .i64 kind] w fun e w' => e = .returned (.tuple #[.int .i64 (numberAv l kind).1, .bool (numberAv l kind).2]) ∧ Upd [] w w' := by
  have HL := Lib.hid hl
  have hs2 := findAv_size kind l _ hs
  simp only [maxLen] at hs2
  obtain ⟨s, b, hf⟩ : ∃ s b, findAv kind l = (s, b) := ⟨_, _, rfl⟩
  have HQ : Hid (numberAv l kind = if b = false ∨ s.size = 0 then (0, false) else valueB s) := by show _ = _; rw [numberAv, hf]
  rw [HQ.out]
  rw [hf] at hs2
  dsimp only at hs2
  have HF := Lib.hid hf
  clear hf HQ hl hs
  obtain ⟨n, hn⟩ : ∃ n, s.size = n := ⟨_, rfl⟩
  rw [hn] at hs2
  by_cases t : b = true ∧ 1 ≤ n ∧ n ≤ 7
  · obtain ⟨rfl, t1, t2⟩ := t
    rw [if_neg (by simp [hn]; omega), valueB, if_neg (by omega), hn]
    have u1 : ¬ ((n : Int) < 1) := by omega
    have u2 : ¬ ((7 : Int) < n) := by omega
    go_enter Tryz.func188, Tryz.ntmps188
    go_wp2_with fail
    refine (rfind18_any l v kind _ HL.out).mono ?_
    rintro e w1 ⟨rfl, hu⟩
    rw [HF.out]
    have HU := Lib.hid hu
    clear hu
    go_wp2_with fail
    go_loopg [8, 9] n (fun m s8 s9 wr => ∃ (k : Nat) (x : Int), k + m = n ∧ s9 = .int .i64 k ∧ s8 = .int .i64 x ∧ x = num s 0 k ∧ 0 ≤ x ∧ x < 256 ^ k ∧ w1 = wr)
    case atStart => exact ⟨0, 0, by omega, rfl, rfl, rfl, by omega, by decide, rfl⟩
    case round =>
      obtain ⟨k, x, hk, rfl, rfl, hx, hx0, hxb, rfl⟩ := hrel
      by_cases t : k < n
      · have q0 := byte_get s k (by omega)
        have d0 := byte_bd s k
        have HX : Hid (x * 256 + byte s k = num s 0 (k + 1)) := by show _ = _; rw [hx, num, Nat.zero_add]
        have hb : (256 : Int) ^ k ≤ 256 ^ 6 := by
          have : (256 : Nat) ^ k ≤ 256 ^ 6 := Nat.pow_le_pow_right (by omega) (by omega)
          exact_mod_cast this
        have hxc : x < 281474976710656 := Int.lt_of_lt_of_le hxb hb
        have HB : Hid (x * 256 + byte s k < 256 ^ (k + 1)) := by
          show _ < _
          rw [Int.pow_succ]
          omega
        generalize byte s k = y at *
        have w3 : True → IntKind.i64.wrap y = y := fun _ => IntWalk.i64_in _ (by omega)
        have t' : (k : Int) < n := by omega
        clear hx hxb hb
        go_wp2_with fail
        go_roundg (n - (k + 1))
        case rel => exact ⟨k + 1, x * 256 + y, by omega, by go_num, rfl, HX.out, by omega, HB.out, rfl⟩
        case measure => omega
      · obtain rfl : k = n := by omega
        have HX := Lib.hid hx
        clear hx hxb
        go_wp2_with fail
        go_ret2
        exact ⟨by rw [HX.out]; rfl, HU.out⟩
  · have hq : (if b = false ∨ s.size = 0 then ((0 : Int), false) else valueB s) = (0, false) := by
      by_cases h1 : b = false ∨ s.size = 0
      · rw [if_pos h1]
      · rw [if_neg h1, valueB, if_pos]
        rw [not_or, Bool.not_eq_false] at h1
        have : b = true ∧ 1 ≤ n → ¬ n ≤ 7 := fun h2 h3 => t ⟨h2.1, h2.2, h3⟩
        have := this ⟨h1.1, by rw [hn] at h1; omega⟩
        omega
    rw [hq]
    clear hq
    cases b
    · clear t
      go_enter Tryz.func188, Tryz.ntmps188
      go_wp2_with fail
      refine (rfind18_any l v kind _ HL.out).mono ?_
      rintro e w1 ⟨rfl, hu⟩
      rw [HF.out]
      go_wp2_with fail
      go_ret2
      exact ⟨rfl, hu⟩
    · by_cases t1 : n < 1
      · have u1 : ((n : Int) < 1) := by omega
        clear t
        go_enter Tryz.func188, Tryz.ntmps188
        go_wp2_with fail
        refine (rfind18_any l v kind _ HL.out).mono ?_
        rintro e w1 ⟨rfl, hu⟩
        rw [HF.out]
        go_wp2_with fail
        go_ret2
        exact ⟨rfl, hu⟩
      · have u1 : ¬ ((n : Int) < 1) := by omega
        have u2 : (7 : Int) < n := by
          have : ¬ (1 ≤ n ∧ n ≤ 7) := fun h => t ⟨rfl, h⟩
          omega
        clear t
        go_enter Tryz.func188, Tryz.ntmps188
        go_wp2_with fail
        refine (rfind18_any l v kind _ HL.out).mono ?_
        rintro e w1 ⟨rfl, hu⟩
        rw [HF.out]
        go_wp2_with fail
        go_ret2
        exact ⟨rfl, hu⟩
end Go.Proofs.YtglafpdealjlnaaGreat
namespace Go.Proofs.YtglafpdealjlnaaGreat
open Go.RowKit
set_option linter.unusedSimpArgs false
set_option linter.unusedVariables false
set_option maxRecDepth 100000

theorem avpLen_none (kind : Int) (h0 : ¬ kind = 0) (h2 : ¬ kind = 2) (h9 : ¬ kind = 9) (h10 : ¬ kind = 10) (h14 : ¬ kind = 14) (h29 : ¬ kind = 29) (h32 : ¬ kind = 32) (h3 : ¬ kind = 3) (h15 : ¬ kind = 15) (h19 : ¬ kind = 19) (h24 : ¬ kind = 24) (h5 : ¬ kind = 5) (h13 : ¬ kind = 13) (h39 : ¬ kind = 39) (h1 : ¬ kind = 1) (h7 : ¬ kind = 7) (h11 : ¬ kind = 11) (h26 : ¬ kind = 26) (h27 : ¬ kind = 27) (h28 : ¬ kind = 28) (h30 : ¬ kind = 30) (h31 : ¬ kind = 31) (h33 : ¬ kind = 33) (h34 : ¬ kind = 34) (h35 : ¬ kind = 35) (h36 : ¬ kind = 36) : avpLen kind = -2 := by
  unfold avpLen
  simp [lenT, h0, h2, h9, h10, h14, h29, h32, h3, h15, h19, h24, h5, h13, h39, h1, h7, h11, h26, h27, h28, h30, h31, h33, h34, h35, h36]
set_option maxHeartbeats 4000000 in
theorem rlen18_any (kind : Int) (w : World) :
    Calls Tryz.prog 94 #[.int .i64 kind] w fun e w' => e = .returned (.int .i64 (avpLen kind)) ∧ Upd [] w w' := by
  by_cases h0 : kind = 0
  · subst h0
    go_enter Tryz.func94, Tryz.ntmps94
    go_wp2_with fail
    go_ret
    exact ⟨rfl, Upd.refl _ _⟩
  by_cases h2 : kind = 2
  · subst h2
    go_enter Tryz.func94, Tryz.ntmps94
    go_wp2_with fail
    go_ret
    exact ⟨rfl, Upd.refl _ _⟩
  by_cases h9 : kind = 9
  · subst h9
    go_enter Tryz.func94, Tryz.ntmps94
    go_wp2_with fail
    go_ret
    exact ⟨rfl, Upd.refl _ _⟩
  by_cases h10 : kind = 10
  · subst h10
    go_enter Tryz.func94, Tryz.ntmps94
    go_wp2_with fail
    go_ret
    exact ⟨rfl, Upd.refl _ _⟩
  by_cases h14 : kind = 14
  · subst h14
    go_enter Tryz.func94, Tryz.ntmps94
    go_wp2_with fail
    go_ret
    exact ⟨rfl, Upd.refl _ _⟩
  by_cases h29 : kind = 29
  · subst h29
    go_enter Tryz.func94, Tryz.ntmps94
    go_wp2_with fail
    go_ret
    exact ⟨rfl, Upd.refl _ _⟩
  by_cases h32 : kind = 32
  · subst h32
    go_enter Tryz.func94, Tryz.ntmps94
    go_wp2_with fail
    go_ret
    exact ⟨rfl, Upd.refl _ _⟩
  by_cases h3 : kind = 3
  · subst h3
    go_enter Tryz.func94, Tryz.ntmps94
    go_wp2_with fail
    go_ret
    exact ⟨rfl, Upd.refl _ _⟩
  by_cases h15 : kind = 15
  · subst h15
    go_enter Tryz.func94, Tryz.ntmps94
    go_wp2_with fail
    go_ret
    exact ⟨rfl, Upd.refl _ _⟩
  by_cases h19 : kind = 19
  · subst h19
    go_enter Tryz.func94, Tryz.ntmps94
    go_wp2_with fail
    go_ret
    exact ⟨rfl, Upd.refl _ _⟩
  by_cases h24 : kind = 24
  · subst h24
    go_enter Tryz.func94, Tryz.ntmps94
    go_wp2_with fail
    go_ret
    exact ⟨rfl, Upd.refl _ _⟩
  by_cases h5 : kind = 5
  · subst h5
    go_enter Tryz.func94, Tryz.ntmps94
    go_wp2_with fail
    go_ret
    exact ⟨rfl, Upd.refl _ _⟩
  by_cases h13 : kind = 13
  · subst h13
    go_enter Tryz.func94, Tryz.ntmps94
    go_wp2_with fail
    go_ret
    exact ⟨rfl, Upd.refl _ _⟩
  by_cases h39 : kind = 39
  · subst h39
    go_enter Tryz.func94, Tryz.ntmps94
    go_wp2_with fail
    go_ret
    exact ⟨rfl, Upd.refl _ _⟩
  by_cases h1 : kind = 1
  · subst h1
    go_enter Tryz.func94, Tryz.ntmps94
    go_wp2_with fail
    go_ret
    exact ⟨rfl, Upd.refl _ _⟩
  by_cases h7 : kind = 7
  · subst h7
    go_enter Tryz.func94, Tryz.ntmps94
    go_wp2_with fail
    go_ret
    exact ⟨rfl, Upd.refl _ _⟩
  by_cases h11 : kind = 11
  · subst h11
    go_enter Tryz.func94, Tryz.ntmps94
    go_wp2_with fail
    go_ret
    exact ⟨rfl, Upd.refl _ _⟩
  by_cases h26 : kind = 26
  · subst h26
    go_enter Tryz.func94, Tryz.ntmps94
    go_wp2_with fail
    go_ret
    exact ⟨rfl, Upd.refl _ _⟩
  by_cases h27 : kind = 27
  · subst h27
    go_enter Tryz.func94, Tryz.ntmps94
    go_wp2_with fail
    go_ret
    exact ⟨rfl, Upd.refl _ _⟩
  by_cases h28 : kind = 28
  · subst h28
    go_enter Tryz.func94, Tryz.ntmps94
    go_wp2_with fail
    go_ret
    exact ⟨rfl, Upd.refl _ _⟩
  by_cases h30 : kind = 30
  · subst h30
    go_enter Tryz.func94, Tryz.ntmps94
    go_wp2_with fail
    go_ret
    exact ⟨rfl, Upd.refl _ _⟩
  by_cases h31 : kind = 31
  · subst h31
    go_enter Tryz.func94, Tryz.ntmps94
    go_wp2_with fail
    go_ret
    exact ⟨rfl, Upd.refl _ _⟩
  by_cases h33 : kind = 33
  · subst h33
    go_enter Tryz.func94, Tryz.ntmps94
    go_wp2_with fail
    go_ret
    exact ⟨rfl, Upd.refl _ _⟩
  by_cases h34 : kind = 34
  · subst h34
    go_enter Tryz.func94, Tryz.ntmps94
    go_wp2_with fail
    go_ret
    exact ⟨rfl, Upd.refl _ _⟩
  by_cases h35 : kind = 35
  · subst h35
    go_enter Tryz.func94, Tryz.ntmps94
    go_wp2_with fail
    go_ret
    exact ⟨rfl, Upd.refl _ _⟩
  by_cases h36 : kind = 36
  · subst h36
    go_enter Tryz.func94, Tryz.ntmps94
    go_wp2_with fail
    go_ret
    exact ⟨rfl, Upd.refl _ _⟩
  rw [avpLen_none kind h0 h2 h9 h10 h14 h29 h32 h3 h15 h19 h24 h5 h13 h39 h1 h7 h11 h26 h27 h28 h30 h31 h33 h34 h35 h36]
  replace h0 : (kind == 0) = false := by simpa using h0
  replace h2 : (kind == 2) = false := by simpa using h2
  replace h9 : (kind == 9) = false := by simpa using h9
  replace h10 : (kind == 10) = false := by simpa using h10
  replace h14 : (kind == 14) = false := by simpa using h14
  replace h29 : (kind == 29) = false := by simpa using h29
  replace h32 : (kind == 32) = false := by simpa using h32
  replace h3 : (kind == 3) = false := by simpa using h3
  replace h15 : (kind == 15) = false := by simpa using h15
  replace h19 : (kind == 19) = false := by simpa using h19
  replace h24 : (kind == 24) = false := by simpa using h24
  replace h5 : (kind == 5) = false := by simpa using h5
  replace h13 : (kind == 13) = false := by simpa using h13
  replace h39 : (kind == 39) = false := by simpa using h39
  replace h1 : (kind == 1) = false := by simpa using h1
  replace h7 : (kind == 7) = false := by simpa using h7
  replace h11 : (kind == 11) = false := by simpa using h11
  replace h26 : (kind == 26) = false := by simpa using h26
  replace h27 : (kind == 27) = false := by simpa using h27
  replace h28 : (kind == 28) = false := by simpa using h28
  replace h30 : (kind == 30) = false := by simpa using h30
  replace h31 : (kind == 31) = false := by simpa using h31
  replace h33 : (kind == 33) = false := by simpa using h33
  replace h34 : (kind == 34) = false := by simpa using h34
  replace h35 : (kind == 35) = false := by simpa using h35
  replace h36 : (kind == 36) = false := by simpa using h36
  go_enter Tryz.func94, Tryz.ntmps94
  go_wp2_with fail
  go_ret
  exact ⟨rfl, Upd.refl _ _⟩
end Go.Proofs.YtglafpdealjlnaaGreat
