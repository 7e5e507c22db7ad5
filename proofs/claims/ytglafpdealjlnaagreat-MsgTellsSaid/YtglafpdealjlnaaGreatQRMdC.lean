/- The walks of the document's own mask, Mask, Unmask (chapter 2). -/
import Derived.Deep.DeepCutAuto
import Derived.Deep.CutRange
import Derived.Deep.CutBlock
import Derived.Test.YtglafpdealjlnaaGreatQRMdB
import Derived.Test.YtglafpdealjlnaaGreatQDigM
namespace Go.Proofs.YtglafpdealjlnaaGreat
open Go.RowKit
set_option linter.unusedSimpArgs false
set_option linter.unusedVariables false
set_option maxRecDepth 100000

theorem ext_next (v : ByteArray) (o V : Nat) (hV : v.size = V) (ho : o < V) : v.extract (o + 16) V = (v.extract o V).extract (min 16 (V - o)) (V - o) := by
  by_cases h : 16 ≤ V - o
  · rw [ByteArray.extract_extract, Nat.min_eq_left h]
    congr 1
    omega
  · have e1 : (v.extract (o + 16) V).size = 0 := by rw [ByteArray.size_extract]; omega
    have e2 : ((v.extract o V).extract (min 16 (V - o)) (V - o)).size = 0 := by rw [ByteArray.size_extract]; omega
    apply ByteArray.ext
    rw [Array.eq_empty_of_size_eq_zero (show (v.extract (o + 16) V).data.size = 0 from e1), Array.eq_empty_of_size_eq_zero (show ((v.extract o V).extract (min 16 (V - o)) (V - o)).data.size = 0 from e2)]
theorem be2_key (v : Int) (hv : 0 ≤ v ∧ v < 65536) : be 2 v = strOfNums [v / 256, v % 256] := by
  have h1 : byteAt v 2 0 = v / 256 := by simp [byteAt]; omega
  have h2 : byteAt v 2 1 = v % 256 := by simp [byteAt]
  rw [be, show List.range 2 = [0, 1] from rfl, List.map_cons, List.map_cons, List.map_nil, h1, h2]
theorem md5_row (b : ByteArray) (hb : b.size ≤ 1000000) : ∃ D : Array Value, md5Row b = D ∧ D.size = 16 ∧ D.all (·.oneCell') = true ∧ (∀ u ∈ D.toList, u.oneCell' = true) ∧ ∀ w, Calls Tryz.prog 318 #[.string b] w fun e w' => e = .returned (.agg D) ∧ Upd [] w w' :=
  ⟨_, rfl, by simp [md5Row], by simp [md5Row, Value.oneCell'], by simp [md5Row, Value.oneCell'], rmd5_any b hb⟩
theorem run_store_md (W : World) (g : Nat) (cur row : Array Value) (hB : Blk W g 361 cur) (hz : row.size = cur.size) (h1 : ∀ u ∈ row.toList, u.oneCell' = true) :
    (storeCells ⟨g, 0, none⟩ row.toList 0).run Tryz.prog W = .ok () (W.setRow g row) := by
  have := run_storeCells_from (P := Tryz.prog) g 361 row.toList 0 cur W hB (by simpa using hz) h1
  simpa using this

set_option maxHeartbeats 8000000 in
theorem rmask_any (un : Bool) (kind : Int) (secret vector v : ByteArray) (hk : 0 ≤ kind ∧ kind < 65536) (hs : secret.size ≤ 400000) (hvz : vector.size ≤ 400000) (hv : v.size ≤ 400000) (w : World) :
    Calls Tryz.prog 305 #[.int .i64 kind, .string secret, .string vector, .string v, .bool un] w fun e w' => e = .returned (.string (maskB un kind secret vector v)) ∧ Upd [] w w' := by
  obtain ⟨i0, hi0, hz0, hz1, hz2⟩ := info_parts info_u8
  obtain ⟨M, hM⟩ : ∃ M, maskB un kind secret vector v = M := ⟨_, rfl⟩
  obtain ⟨K0, hK0⟩ : ∃ K0, keyB kind secret vector = K0 := ⟨_, rfl⟩
  have HM : Hid (maskL un secret v.size K0 v = M) := by show _ = _; rw [← hM, maskB, hK0]
  have hKz : K0.size = 2 + secret.size + vector.size := by rw [← hK0, keyB, ByteArray.size_append, ByteArray.size_append, strOfNums_size]; rfl
  have HKE : Hid (be 2 kind ++ secret ++ vector = K0) := by show _ = _; rw [be2_key kind hk, ← hK0, keyB]
  rw [hM]
  clear hM hK0
  obtain ⟨V, hV⟩ : ∃ V, v.size = V := ⟨_, rfl⟩
  rw [hV] at hv HM
  have HKK := Lib.hid hk
  go_enter Tryz.func305, Tryz.ntmps305
  go_wp2_with fail
  go_loopg [11, 12, 13] V (fun m s11 s12 s13 wr => ∃ (o : Nat) (r key last out : ByteArray), s11 = .string out ∧ s12 = .string last ∧ s13 = .int .i64 o ∧ v.extract o V = r ∧ r.size = m ∧ r.size = V - o ∧ o ≤ V + 16 ∧ last.size ≤ 16 ∧ (o = 0 → key = K0) ∧ (0 < o → key = secret ++ last) ∧ out.size + r.size = V ∧ out ++ maskL un secret r.size key r = M ∧ Upd [] w wr)
  case atStart => exact ⟨0, v, K0, ⟨#[]⟩, ⟨#[]⟩, rfl, rfl, rfl, by rw [← hV, ByteArray.extract_zero_size], hV, by rw [hV]; omega, by omega, by show 0 ≤ 16; omega, fun _ => rfl, fun h => absurd h (by omega), by show 0 + v.size = V; omega, by rw [hV, HM.out]; exact ByteArray.empty_append, Upd.refl _ _⟩
  case round =>
    clear HM
    obtain ⟨o, r, key, last, out, rfl, rfl, rfl, hr, hrm, hrz, hob, hlz, hk1, hk2, hor, hm, hu⟩ := hrel
    by_cases t : o < V
    · have t' : (o : Int) < V := by omega
      have hnx0 := ext_next v o V hV t
      rw [hr, ← hrz] at hnx0
      obtain ⟨R, hR⟩ : ∃ R, r.size = R := ⟨_, rfl⟩
      rw [hR] at hnx0 hrm hrz hor hm
      obtain ⟨m, hmm⟩ : ∃ m, min 16 R = m := ⟨_, rfl⟩
      have hm16 : m ≤ 16 := by omega
      have hmr : m ≤ R := by omega
      have hm0 : 0 < m := by omega
      obtain ⟨i, hi⟩ : ∃ i, r.extract 0 m = i := ⟨_, rfl⟩
      have hiz : i.size = m := by rw [← hi, ByteArray.size_extract]; omega
      obtain ⟨r2, hr2⟩ : ∃ r2, r.extract m R = r2 := ⟨_, rfl⟩
      have hr2z : r2.size = R - m := by rw [← hr2, ByteArray.size_extract]; omega
      rw [hmm, hr2] at hnx0
      have HNX := Lib.hid hnx0
      obtain ⟨ob, hob2⟩ : ∃ ob, xorB i key = ob := ⟨_, rfl⟩
      have hoz : ob.size = m := by rw [← hob2, xorB_size, hiz]
      have HN : Hid (out ++ ob ++ maskL un secret r2.size (secret ++ (if un = true then i else ob)) r2 = M) := by
        show _ = _
        rw [← hm]
        obtain ⟨z, hz⟩ : ∃ z, R = z + 1 := ⟨R - 1, by omega⟩
        have t0 : ¬ r.size = 0 := by omega
        rw [hz, maskL, if_neg t0, hR, hmm, hi, hr2]
        dsimp only
        rw [hob2, ByteArray.append_assoc, maskL_more un secret z r2.size _ _ (by omega) (Nat.le_refl _)]
      have HOB : Hid (ob = strOfNums ((List.range m).map fun j => ((sb i j ^^^ md5At key j : Nat) : Int))) := by show _ = _; rw [← hob2, xorB_eq, hiz]
      have HI := Lib.hid hi
      have HU := Lib.hid hu
      have HK1 := Lib.hid hk1
      have HK2 := Lib.hid hk2
      have ha1 := run_string_add_sum (P := Tryz.prog) wr secret last (by omega)
      obtain ⟨sl, hsl⟩ : ∃ sl, secret ++ last = sl := ⟨_, rfl⟩
      have hslz : sl.size ≤ 400016 := by rw [← hsl, ByteArray.size_append]; omega
      have HSL := Lib.hid hsl
      rw [hsl] at ha1
      obtain ⟨D, hD, hDz, hD1, hD2, hD3⟩ := md5_row sl (by omega)
      have HD := Lib.hid hD
      have HMD := Lib.hid hD3
      have HD1 := Lib.hid hD1
      clear hD hD3 hD1 hD2
      have hR2 : R = V - o := hrz
      have HMM := Lib.hid hmm
      clear hnx0 hm hu hmm hob2 hk1 hk2 hi hr2 hsl hrz
      go_upto_if 29 with (fail)
      go_cut [14] from 18 to 68 (fun s14 V => s14 = .string i ∧ wr = V)
      case first =>
        by_cases h16 : 16 < R
        · have k2 : (16 : Int) < (R : Int) := by omega
          obtain rfl : m = 16 := by have := HMM.out; omega
          have hie := HI.out
          go_wp2_with fail
          go_meet
          case rel => exact ⟨by first | rfl | rw [← hie], rfl⟩
        · have k2 : ¬ ((16 : Int) < (R : Int)) := by omega
          have hie : r = i := by rw [← HI.out, show m = R by have := HMM.out; omega, ← hR, ByteArray.extract_zero_size]
          go_wp2_with fail
          go_meet
          case rel => exact ⟨by first | rfl | rw [hie], rfl⟩
      case rest =>
      obtain ⟨rfl, rfl⟩ := hcut
      go_wp2_with fail
      refine (HMD.out _).mono ?_
      rintro e w2 ⟨rfl, hu2⟩
      have HU2 := Lib.hid (HU.out.trans hu2)
      clear hu2 ha1
      have hst := run_storeCells_new (P := Tryz.prog) w2 361 #[Value.int .u8 0, Value.int .u8 0, Value.int .u8 0, Value.int .u8 0, Value.int .u8 0, Value.int .u8 0, Value.int .u8 0, Value.int .u8 0, Value.int .u8 0, Value.int .u8 0, Value.int .u8 0, Value.int .u8 0, Value.int .u8 0, Value.int .u8 0, Value.int .u8 0, Value.int .u8 0] D (by rw [hDz]; kernel_rfl) (by rw [hDz]; rfl) HD1.out
      have B3 := Blk.new w2 361 D
      have HU3 := Lib.hid (HU2.out.alloc (Obj.cells D 361))
      go_upto_if 37 with (fail)
      have hgd : w.heap.size ≤ w2.heap.size := HU2.out.size
      generalize hw3 : w2.alloc (.cells D 361) = w3 at *
      clear hst hw3
      generalize w2.heap.size = gd at *
      go_cut [] from 18 to 68 (fun V => Blk V gd 361 (md5Row key) ∧ Upd [] w V)
      case first =>
        by_cases h0 : o = 0
        · have k1 : ((o : Int) == 0) = true := by simp; omega
          have H0 := Lib.hid h0
          clear h0
          obtain ⟨E, hE, hEz, hE1, hE2, hE3⟩ := md5_row K0 (by omega)
          have HE := Lib.hid hE
          have HE2 := Lib.hid hE2
          have HE3 := Lib.hid hE3
          clear hE hE1 hE2 hE3
          go_wp2_with fail
          refine (rtwo_any kind (by have := HKK.out; omega) _).mono ?_
          rintro e w4 ⟨rfl, hu4⟩
          have ha2 := run_string_add_sum (P := Tryz.prog) w4 (be 2 kind) secret (by rw [be_size]; omega)
          have ha3 := run_string_add_sum (P := Tryz.prog) w4 (be 2 kind ++ secret) vector (by rw [ByteArray.size_append, be_size]; omega)
          rw [HKE.out] at ha3
          have B4 := B3.upd hu4 (by simp)
          have HU4 := Lib.hid (HU3.out.trans hu4)
          clear B3 hu4
          go_wp2_with fail
          refine (HE3.out _).mono ?_
          rintro e w5 ⟨rfl, hu5⟩
          have B5 := B4.upd hu5 (by simp)
          have hst2 := run_store_md w5 gd _ E B5 (by rw [hEz, hDz]) HE2.out
          have B6 := B5.row_ E
          have HU6 := Lib.hid ((HU4.out.trans hu5).setRow' (.inr hgd) E)
          clear hu5 B4 B5
          go_wp2_with fail
          go_meet
          case rel => exact ⟨by rw [HK1.out H0.out, HE.out]; exact B6, HU6.out⟩
        · have k1 : ((o : Int) == 0) = false := by simp; omega
          go_wp2_with fail
          go_meet
          case rel => exact ⟨by rw [HK2.out (by omega), HSL.out, HD.out]; exact B3, HU3.out⟩
      case rest =>
      obtain ⟨B6, hu6⟩ := hcut
      have HU6 := Lib.hid hu6
      clear hu6 B3 HU3
      go_wp2_with fail
      generalize hw6 : wc = w6 at *
      clear hw6
      have HB3 := Lib.hid B6
      clear B6
      go_loopg [16, 17] m (fun p s16 s17 wx => ∃ (j : Nat) (ao : Option Addr) (cap : Nat) (own : List Nat), j + p = m ∧ s16 = .slice ao j cap ∧ s17 = .int .i64 j ∧ Own wx 5 1 (.slice ao j cap) j (u8s ((List.range j).map fun q => ((sb i q ^^^ md5At key q : Nat) : Int))) own ∧ (∀ k, k ∈ own → w6.heap.size ≤ k) ∧ Upd [] w6 wx)
      case atStart => exact ⟨0, none, 0, [], by omega, rfl, rfl, Own.nil _ _ _, by simp, Upd.refl _ _⟩
      case round =>
        obtain ⟨j, ao, cap, own, hj, rfl, rfl, ho, hin, hu⟩ := hrel
        by_cases t : j < m
        · have hj16 : (j : Int) < 16 := by omega
          have q0 := byte_get i j (by omega)
          have hbx : byte i j = ((sb i j : Nat) : Int) := rfl
          rw [hbx] at q0
          have d0 : wr.cell? ⟨gd, j, none⟩ = some (.int .u8 (md5At key j)) := by
            rw [(HB3.out.upd hu (by simp)).cell]
            simp [md5Row, show j < 16 by omega]
          have hx := xor_u8 (sb i j) (md5At key j) (sb_lt _ j) (md5At_lt key j)
          obtain ⟨x, hxx⟩ : ∃ x, sb i j ^^^ md5At key j = x := ⟨_, rfl⟩
          rw [hxx] at hx
          have HXX := Lib.hid hxx
          have HO := Lib.hid ho
          have HIN := Lib.hid hin
          have HUU := Lib.hid hu
          clear hxx ho hin hu hbx
          generalize sb i j = a1 at q0 hx
          generalize md5At key j = a2 at d0 hx
          go_wp2_with fail
          go_region_law (refine step_append_Own _ rfl (.tmp 51) (.tmp 59) 151 rfl 5 i0 _ 1 1 Tryz.underlying151 hi0 hz0 hz1 hz2 rfl (by decide) (.slice ao j cap) j (u8s ((List.range j).map fun q => ((sb i q ^^^ md5At key q : Nat) : Int))) own (by simp [Act.eval]) (Own.alloc _ (by exact HO.out)) ⟨wr.heap.size, 0, none⟩ 1 1 [.int .u8 (x : Int)] (by simp [Act.eval]) rfl (World.news_of_block (Blk.new _ _ _)) (by simp [Value.oneCell']) (by decide) (by simp only [maxLen]; omega) (by omega) ?_; intro g off cap1 w7 ow7 ho7 hin7 hu7; have HO7 := Lib.hid ho7; have HIN7 := Lib.hid hin7; have HU7 := Lib.hid hu7; clear ho7 hin7 hu7)
          all_goals
            go_wp2_with fail
            go_roundg (m - (j + 1))
            case rel =>
              refine ⟨j + 1, some ⟨g, off, none⟩, cap1, ow7, by omega, by first | rfl | go_num, by go_num, ?_, fun k hk => ?_, ((HUU.out.alloc _).drew.trans' HU7.out (fun y hy => .inr (HIN.out y hy)))⟩
              · rw [List.range_succ, List.map_append, List.map_singleton, u8s_snoc, HXX.out]; exact HO7.out
              · rcases HIN7.out k hk with h | h
                · exact HIN.out k h
                · simp at h
                  have := HUU.out.size
                  omega
            case measure => omega
        · have hjm : j = m := by omega
          obtain ⟨g, off, rfl⟩ : ∃ g off, ao = some ⟨g, off, none⟩ := by
            obtain ⟨g, off, cap', hv', _⟩ := ho.form (by omega)
            injection hv' with e1
            exact ⟨g, off, e1⟩
          have hcv := ho.str
          rw [show strOfNums ((List.range j).map fun q => ((sb i q ^^^ md5At key q : Nat) : Int)) = ob from by rw [HOB.out, hjm]] at hcv
          have ha5 := run_string_add_sum (P := Tryz.prog) wr out ob (by omega)
          have HUW : Hid (Upd [] w wr) := HU6.out.trans hu
          clear ho hu hin hjm
          cases un
          · go_wp2_with fail
            go_roundg r2.size
            case rel => exact ⟨o + 16, r2, secret ++ ob, ob, out ++ ob, rfl, rfl, by go_num, HNX.out, rfl, by have := HMM.out; omega, by omega, by omega, fun h => absurd h (by omega), fun _ => rfl, by rw [ByteArray.size_append]; omega, HN.out, HUW.out⟩
            case measure => omega
          · go_wp2_with fail
            go_roundg r2.size
            case rel => exact ⟨o + 16, r2, secret ++ i, i, out ++ ob, rfl, rfl, by go_num, HNX.out, rfl, by have := HMM.out; omega, by omega, by omega, fun h => absurd h (by omega), fun _ => rfl, by rw [ByteArray.size_append]; omega, HN.out, HUW.out⟩
            case measure => omega
    · have t' : ¬ ((o : Int) < V) := by omega
      have HM : Hid (out = M) := by
        show _ = _
        rw [← hm, show r.size = 0 by omega, maskL]
        exact ByteArray.append_empty.symm
      clear hm
      go_wp2_with fail
      go_ret
      rw [HM.out]
      exact ⟨rfl, hu⟩
set_option maxHeartbeats 400000 in
theorem rMask_any (kind : Int) (secret vector v : ByteArray) (hk : 0 ≤ kind ∧ kind < 65536) (hs : secret.size ≤ 400000) (hvz : vector.size ≤ 400000) (hv : v.size ≤ 400000) (w : World) :
    Calls Tryz.prog 234 #[.int .i64 kind, .string secret, .string vector, .string v] w fun e w' => e = .returned (.string (maskB false kind secret vector v)) ∧ Upd [] w w' := by
  have H := Lib.hid (rmask_any false kind secret vector v hk hs hvz hv)
  generalize maskB false kind secret vector v = r at *
  clear hk hs hvz hv
  go_enter Tryz.func234, Tryz.ntmps234
  go_wp2_with fail
  refine (H.out _).mono ?_
  rintro e w5 ⟨rfl, hu⟩
  go_wp2_with fail
  go_ret
  exact ⟨rfl, hu⟩
set_option maxHeartbeats 400000 in
theorem rUnmask_any (kind : Int) (secret vector v : ByteArray) (hk : 0 ≤ kind ∧ kind < 65536) (hs : secret.size ≤ 400000) (hvz : vector.size ≤ 400000) (hv : v.size ≤ 400000) (w : World) :
    Calls Tryz.prog 237 #[.int .i64 kind, .string secret, .string vector, .string v] w fun e w' => e = .returned (.string (maskB true kind secret vector v)) ∧ Upd [] w w' := by
  have H := Lib.hid (rmask_any true kind secret vector v hk hs hvz hv)
  generalize maskB true kind secret vector v = r at *
  clear hk hs hvz hv
  go_enter Tryz.func237, Tryz.ntmps237
  go_wp2_with fail
  refine (H.out _).mono ?_
  rintro e w5 ⟨rfl, hu⟩
  go_wp2_with fail
  go_ret
  exact ⟨rfl, hu⟩
end Go.Proofs.YtglafpdealjlnaaGreat
