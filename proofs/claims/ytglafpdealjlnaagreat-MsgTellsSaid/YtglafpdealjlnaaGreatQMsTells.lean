/- The walk of the statement MsgTells. -/
import Derived.Test.YtglafpdealjlnaaGreatQRMsB
import Derived.Test.YtglafpdealjlnaaGreatQRMsA
import Derived.Test.YtglafpdealjlnaaGreatQRMsD
import Derived.Test.YtglafpdealjlnaaGreatQMsgI
import Derived.Test.YtglafpdealjlnaaGreatQLightA
import Derived.Test.YtglafpdealjlnaaGreatQBkAvpsA
import Derived.Test.YtglafpdealjlnaaGreatQBkApAI
import Derived.Test.YtglafpdealjlnaaGreatQBkZ
import Derived.Test.YtglafpdealjlnaaGreatQAvTellsP
namespace Go.Proofs.YtglafpdealjlnaaGreat
open Go.RowKit
set_option linter.unusedSimpArgs false
set_option linter.unusedVariables false
set_option maxRecDepth 100000

/-- What holds as a drawn region goes on: nothing old is written. -/
def upA (w0 : World) (_ : List Value) (W : World) : Prop := Upd [] w0 W
def nm2 (w0 : World) (L : List Int) (M : List Av) (u v : Value) (W : World) : Prop :=
  Upd [] w0 W ∧ (∃ ao cap, u = .slice ao L.length cap) ∧ (∃ ao cap, v = .slice ao M.length cap) ∧ (∃ own, Own W 3 1 u L.length (L.map (Value.int .i64)) own ∧ ∀ k ∈ own, w0.heap.size ≤ k) ∧
      ∃ own, Own W 85 5 v M.length (avCells M) own ∧ ∀ k ∈ own, w0.heap.size ≤ k
/-- The needs are made, then the values. -/
def nmA (w0 : World) (L : List Int) (M : List Av) (vs : List Value) (W : World) : Prop := match vs with
  | [] => Upd [] w0 W
  | [u] => Upd [] w0 W ∧ (∃ ao cap, u = .slice ao L.length cap) ∧ ∃ own, Own W 3 1 u L.length (L.map (Value.int .i64)) own ∧ ∀ k ∈ own, w0.heap.size ≤ k
  | [u, v] => nm2 w0 L M u v W
  | [u, v, x] => nm2 w0 L M u v W ∧ x = u
  | [u, v, x, y] => nm2 w0 L M u v W ∧ x = u ∧ y = v
  | _ => False
theorem nmA_upd {w0 W : World} {L : List Int} {M : List Av} {vs : List Value} (h : nmA w0 L M vs W) : Upd [] w0 W := by
  match vs, h with
  | [], h => exact h
  | [u], h => exact h.1
  | [u, v], h => exact h.1
  | [u, v, x], h => exact h.1.1
  | [u, v, x, y], h => exact h.1.1
theorem mem_add2 {α : Type} {R : List (Bit α)} {b d : Bit α} (h : d ∈ (if R.length < 250 then R ++ [b] else R)) : d ∈ R ∨ d = b := by
  split at h
  · simpa using h
  · exact .inl h
theorem needs_len (kind : Int) : ((needsOf kind).getD []).length ≤ 4 := by
  unfold needsOf
  repeat' split
  all_goals simp
theorem flat_ints (l : List Int) : l.flatMap bkCInts = l.map (Value.int .i64) := by
  induction l with
  | nil => rfl
  | cons a l ih => rw [List.flatMap_cons, List.map_cons, ih]; rfl
theorem getM_len (b secret : ByteArray) : (getM b secret).1.l.length ≤ 40 := by
  unfold getM
  by_cases h1 : b.size < 12
  · rw [if_pos h1]; exact Nat.zero_le _
  rw [if_neg h1]
  by_cases h2 : byte b 0 ≠ 200 ∨ byte b 1 ≠ 2
  · rw [if_pos h2]; exact Nat.zero_le _
  rw [if_neg h2]
  generalize num b 2 2 = k
  by_cases h3 : (b.size : Int) < k
  · rw [if_pos h3]; exact Nat.zero_le _
  rw [if_neg h3]
  by_cases h4 : k < 12
  · rw [if_pos h4]; exact Nat.zero_le _
  rw [if_neg h4]
  have h5 := getA_len (b.extract 12 k.toNat) secret
  generalize getA (b.extract 12 k.toNat) secret = x at *
  by_cases h6 : x.2 ≠ 0
  · rw [if_pos h6]; exact Nat.zero_le _
  rw [if_neg h6]
  exact h5

set_option maxHeartbeats 8000000 in
theorem msgTells_any (c : Cm) (v : Value) (l : Ld) (secret b : ByteArray) (kind : Int) (w : World) (hl : AvsAt w v c.l) (hls : ∀ t ∈ c.l, t.val.size ≤ 140737488355328)
    (hd : l.data.size ≤ 140737488355328) (hsz : secret.size ≤ 140737488355328) (hbz : b.size ≤ 140737488355328) (hk : -9223372036854775808 ≤ kind ∧ kind ≤ 9223372036854775807) :
    Calls Tryz.prog 3 #[c.val v, l.agg, .string secret, .string b, .int .i64 kind] w fun e w' => e = .returned (.bool true) ∧ Upd [] w w' := by
  obtain ⟨t, s, ns, nr, cl⟩ := c
  obtain ⟨lt, ls, lq, lns, lnr, ld⟩ := l
  dsimp only at hl hls hd
  simp only [Cm.val, Ld.agg]
  obtain ⟨ao, cap, rfl, hc1, hc2, -⟩ := id hl
  obtain ⟨n, hn⟩ : ∃ n, n = cl.length := ⟨_, rfl⟩
  rw [← hn] at hl hc1 ⊢
  have HN := Lib.hid hn
  have HLS := Lib.hid hls
  have HKR := Lib.hid hk
  obtain ⟨A, hA⟩ : ∃ A, A = Obj.cells #[.int .i64 t, .int .i64 s, .int .i64 ns, .int .i64 nr, .slice ao n cap] 24 := ⟨_, rfl⟩
  obtain ⟨B, hB⟩ : ∃ B, B = Obj.cells #[.int .i64 lt, .int .i64 ls, .bool lq, .int .i64 lns, .int .i64 lnr, .string ld] 26 := ⟨_, rfl⟩
  have A0 : Blk ((w.alloc A).alloc B) w.heap.size 24 #[.int .i64 t, .int .i64 s, .int .i64 ns, .int .i64 nr, .slice ao n cap] := by rw [hA]; exact (Blk.new _ _ _).alloc _
  have B0 : Blk ((w.alloc A).alloc B) (w.heap.size + 1) 26 #[.int .i64 lt, .int .i64 ls, .bool lq, .int .i64 lns, .int .i64 lnr, .string ld] := by
    rw [hB]
    have h := Blk.new (w.alloc A) 26 #[.int .i64 lt, .int .i64 ls, .bool lq, .int .i64 lns, .int .i64 lnr, .string ld]
    rw [World.size_alloc] at h
    exact h
  have HU0 : Hid (Upd [] w ((w.alloc A).alloc B)) := ((Upd.refl _ _).alloc _).alloc _
  have HL0 : Hid (AvsAt ((w.alloc A).alloc B) (.slice ao n cap) cl) := hl.upd HU0.out
  have HA := Lib.hid hA
  have HB := Lib.hid hB
  obtain ⟨bc, hbc⟩ : ∃ g, g = w.heap.size := ⟨_, rfl⟩
  obtain ⟨bl, hbl⟩ : ∃ g, g = w.heap.size + 1 := ⟨_, rfl⟩
  rw [← hbc] at A0
  rw [← hbl] at B0
  have HBC := Lib.hid hbc
  have HBL := Lib.hid hbl
  clear hA hB hn hls hk hl hbc hbl
  go_enter Tryz.func3, Tryz.ntmps3
  go_upto_region 1 with (fail)
  rw [← HA.out, ← HB.out]
  rw [← HBL.out, ← HBC.out]
  clear HA HB HBC HBL
  generalize (w.alloc A).alloc B = w0 at *
  have HCC : Hid (∀ W, Upd [] w0 W → Blk W bc 24 #[.int .i64 t, .int .i64 s, .int .i64 ns, .int .i64 nr, .slice ao n cap] ∧ Blk W bl 26 #[.int .i64 lt, .int .i64 ls, .bool lq, .int .i64 lns, .int .i64 lnr, .string ld]) := fun W hu => ⟨A0.upd hu (by simp), B0.upd hu (by simp)⟩
  clear A0 B0
  obtain ⟨c0, c1, c2, c3, c4, -⟩ := ctl5 (HCC.out w0 (Upd.refl _ _)).1
  cases t1 : LightA cl
  · have T1 := Lib.hid t1
    clear t1
    go_wp2_with fail
    refine (lightA_any cl _ _ HL0.out HLS.out).mono ?_
    rintro e w1 ⟨rfl, hu1⟩
    rw [T1.out]
    go_wp2_with fail
    refine (alive_any _).mono ?_
    rintro e w2 ⟨rfl, hu2⟩
    go_wp2_with fail
    go_ret
    exact ⟨rfl, HU0.out.trans (hu1.trans hu2)⟩
  have T1 := Lib.hid t1
  clear t1
  by_cases t3 : 6000 < ld.size + b.size + secret.size
  · have t3' : (6000 : Int) < (ld.size : Int) + b.size + secret.size := by omega
    clear t3
    go_wp2_with fail
    refine (lightA_any cl _ _ HL0.out HLS.out).mono ?_
    rintro e w1 ⟨rfl, hu1⟩
    rw [T1.out]
    have HU1 := Lib.hid hu1
    clear hu1 c0 c1 c2 c3 c4
    obtain ⟨d0, d1, d2, d3, d4, d5, -⟩ := ld6 (HCC.out w1 HU1.out).2
    go_wp2_with fail
    refine (alive_any _).mono ?_
    rintro e w2 ⟨rfl, hu2⟩
    go_wp2_with fail
    go_ret
    exact ⟨rfl, HU0.out.trans (HU1.out.trans hu2)⟩
  have t3' : ¬ (6000 : Int) < (ld.size : Int) + b.size + secret.size := by omega
  have HSZ : Hid (secret.size ≤ 400000 ∧ b.size ≤ 400000 ∧ ld.size ≤ maxLen ∧ b.size ≤ maxLen) := by
    show _ ∧ _ ∧ _ ∧ _
    simp only [maxLen]
    omega
  have HLM : Hid (∀ t ∈ cl, t.val.size ≤ maxLen) := fun t ht => by
    have := HLS.out t ht
    simp only [maxLen]
    omega
  have HLL : Hid (cl.length ≤ 50) := LightA_spec T1.out
  clear t3
  go_wp2_with fail
  refine (lightA_any cl _ _ HL0.out HLS.out).mono ?_
  rintro e w1 ⟨rfl, hu1⟩
  rw [T1.out]
  have HU1 := Lib.hid hu1
  clear hu1 c0 c1 c2 c3 c4
  obtain ⟨d0, d1, d2, d3, d4, d5, -⟩ := ld6 (HCC.out w1 HU1.out).2
  go_wp2_with (refine wpList_build_of rfl 49 rfl bkZ (bk_build _) ?_)
  clear d0 d1 d2 d3 d4 d5
  have HK0 : Hid (BkAI [] w0 (w1.alloc (Obj.cells bkZ 49)) w1.heap.size [] []) := BkAI.zero w0 w1 HU1.out (by simp) (cs := bkZ) rfl
  generalize w1.alloc (Obj.cells bkZ 49) = w8 at *
  generalize w1.heap.size = g at *
  clear HU1 T1
  obtain ⟨q0, q1, hq⟩ : ∃ b n, putM ⟨t, s, ns, nr, cl⟩ secret = (b, n) := ⟨_, _, rfl⟩
  obtain ⟨⟨pt, ps, pn, pr, pl⟩, r1, hr⟩ : ∃ (x : Cm) (e : Int), getM b secret = (x, e) := ⟨_, _, rfl⟩
  obtain ⟨kd, hkd⟩ : ∃ x, kindOf cl = x := ⟨_, rfl⟩
  obtain ⟨ck, hck⟩ : ∃ x, checkOf cl = x := ⟨_, rfl⟩
  obtain ⟨nd, hnd⟩ : ∃ x, (needsOf kind).getD [] = x := ⟨_, rfl⟩
  have HQ := Lib.hid hq
  have HR := Lib.hid hr
  have HKD := Lib.hid hkd
  have HCK := Lib.hid hck
  have HND := Lib.hid hnd
  have HNL : Hid (nd.length ≤ 4) := by rw [← hnd]; exact needs_len kind
  have HRL : Hid (pl.length ≤ 40) := by
    have h := getM_len b secret
    rw [hr] at h
    exact h
  clear hq hr hkd hck hnd
  go_loopg [12] 2 (fun mm s12 wr => ∃ (k : Nat) (RA : List (Bit Av)) (RI : List (Bit Int)), k + mm = 2 ∧ s12 = .int .i64 k ∧ BkAI [] w0 wr g RA RI)
  case atStart => exact ⟨0, [], [], by omega, rfl, HK0.out⟩
  case round =>
    obtain ⟨k, RA, RI, hk, rfl, hbk⟩ := hrel
    have HBK := Lib.hid hbk
    clear hbk
    have HUR : Hid (Upd [] w0 wr) := HBK.out.ups
    by_cases tk : k < 2
    rotate_left
    · obtain rfl : k = 2 := by omega
      obtain ⟨x, hx⟩ : ∃ x, (⟨lt, ls, lq, lns, lnr, ld⟩ : Ld).put = x := ⟨_, rfl⟩
      obtain ⟨x0, x1⟩ := x
      obtain ⟨⟨⟨gt, gs, gq, gn, gr, gd⟩, y1⟩, hy⟩ : ∃ x, getL b = x := ⟨_, rfl⟩
      have HX := Lib.hid hx
      have HY := Lib.hid hy
      clear hx hy
      obtain ⟨d0, d1, d2, d3, d4, d5, -⟩ := ld6 (HCC.out wr HUR.out).2
      go_wp2_with fail
      refine (putLoad_any ⟨lt, ls, lq, lns, lnr, ld⟩ HSZ.out.2.2.1 _).mono ?_
      rintro e w2 ⟨rfl, hu2⟩
      rw [HX.out]
      have HU2 := Lib.hid hu2
      clear d0 d1 d2 d3 d4 d5 hu2
      obtain ⟨d0, d1, d2, d3, d4, d5, -⟩ := ld6 (HCC.out w2 (HUR.out.trans HU2.out)).2
      go_wp2_with fail
      refine (rputLoad_any ⟨lt, ls, lq, lns, lnr, ld⟩ HSZ.out.2.2.1 _).mono ?_
      rintro e w3 ⟨rfl, hu3⟩
      rw [HX.out]
      have HU3 := Lib.hid (HU2.out.trans hu3)
      clear d0 d1 d2 d3 d4 d5 hu3
      go_wp2_with fail
      refine (getLoad_any b HSZ.out.2.1 _).mono ?_
      rintro e w4 ⟨rfl, hu4⟩
      rw [HY.out]
      simp only [Ld.agg]
      have HBX := Lib.hid (Blk.new w4 26 #[.int .i64 gt, .int .i64 gs, .bool gq, .int .i64 gn, .int .i64 gr, .string gd])
      have HU4 := Lib.hid ((HU3.out.trans hu4).alloc (.cells #[.int .i64 gt, .int .i64 gs, .bool gq, .int .i64 gn, .int .i64 gr, .string gd] 26))
      clear hu4
      go_wp2_with fail
      refine (rgetLoad_any b HSZ.out.2.1 _).mono ?_
      rintro e w5 ⟨rfl, hu5⟩
      rw [HY.out]
      simp only [Ld.agg]
      have HBY := Lib.hid (Blk.new w5 26 #[.int .i64 gt, .int .i64 gs, .bool gq, .int .i64 gn, .int .i64 gr, .string gd])
      have HBX5 := Lib.hid ((HBX.out.upd hu5 (by simp)).alloc (.cells #[.int .i64 gt, .int .i64 gs, .bool gq, .int .i64 gn, .int .i64 gr, .string gd] 26))
      have HU5 := Lib.hid ((HU4.out.trans hu5).alloc (.cells #[.int .i64 gt, .int .i64 gs, .bool gq, .int .i64 gn, .int .i64 gr, .string gd] 26))
      clear hu5 HBX
      go_wp2_with fail
      refine (alive_any _).mono ?_
      rintro e w6 ⟨rfl, hu6⟩
      have HB6 := Lib.hid (HBK.out.upd (HU5.out.trans hu6))
      have HBX6 := Lib.hid (HBX5.out.upd hu6 (by simp))
      have HBY6 := Lib.hid (HBY.out.upd hu6 (by simp))
      clear hu6 HBX5 HBY
      go_wp2_with fail
      refine (apartAI_all HB6.out).mono ?_
      rintro e w7 ⟨rfl, hu7, ht7⟩
      have HBX7 := Lib.hid (HBX6.out.updT ht7 (by decide))
      have HBY7 := Lib.hid (HBY6.out.updT ht7 (by decide))
      have HU7 := Lib.hid (HU0.out.trans hu7)
      clear hu7 ht7
      obtain ⟨x0', x1', x2', x3', x4', x5', -⟩ := ld6 HBX7.out
      obtain ⟨z0, z1, z2, z3, z4, z5, -⟩ := ld6 HBY7.out
      have H1 := Lib.hid (fun W => isCtl_any b HSZ.out.2.2.2 W)
      have H2 := Lib.hid (fun W => risCtl_any b HSZ.out.2.2.2 W)
      generalize isCtlB b = ib at *
      have hib : (ib == ib) = true := by cases ib <;> rfl
      go_wp2_with fail
      refine (H1.out _).mono ?_
      rintro e w8 ⟨rfl, rfl⟩
      go_wp2_with fail
      refine (H2.out _).mono ?_
      rintro e w8 ⟨rfl, rfl⟩
      go_wp2_with fail
      go_ret
      exact ⟨rfl, HU7.out⟩
    have ti : (k : Int) < 2 := by omega
    obtain ⟨c0, c1, c2, c3, c4, -⟩ := ctl5 (HCC.out wr HUR.out).1
    have HX0 := Lib.hid (Blk.new wr 24 #[.int .i64 t, .int .i64 s, .int .i64 ns, .int .i64 nr, .slice ao n cap])
    have HUX0 := Lib.hid ((Upd.refl [] wr).alloc (.cells #[.int .i64 t, .int .i64 s, .int .i64 ns, .int .i64 nr, .slice ao n cap] 24))
    have HLX0 := Lib.hid ((HL0.out.upd HUR.out).upd HUX0.out)
    have HCC1 : Hid (∀ W, Upd [] wr W → Blk W bc 24 #[.int .i64 t, .int .i64 s, .int .i64 ns, .int .i64 nr, .slice ao n cap]) := fun W hW => (HCC.out W (HUR.out.trans hW)).1
    go_upto_region 8 with (fail)
    obtain ⟨bx, hbx⟩ : ∃ x, x = wr.heap.size := ⟨_, rfl⟩
    rw [← hbx] at HX0 ⊢
    have HBXE := Lib.hid hbx
    generalize hw1 : wr.alloc (.cells #[.int .i64 t, .int .i64 s, .int .i64 ns, .int .i64 nr, .slice ao n cap] 24) = w1 at *
    clear hw1 hbx c0 c1 c2 c3 c4
    obtain ⟨c0, c1, c2, c3, c4, -⟩ := ctl5 (HCC1.out w1 HUX0.out)
    go_wp2_with fail
    refine (bkLentAvps cl _ _ (by have h := HLX0.out.rd; exact h) (by have := HLL.out; omega)).mono ?_
    rintro e w2 ⟨v1, own1, rfl, hv1, hf1, hu1⟩
    obtain ⟨gx, ox, cx, rfl, -⟩ := id hv1
    have hxb := HX0.out.upd hu1 (by simp)
    have hbn : bx ∉ own1 := fun h => by have h1 := hf1 _ h; have h2 := HX0.out.lt; omega
    have HV3 := Lib.hid (hv1.upd (F := [bx]) ((Upd.refl [bx] w2).setCell (p := ⟨bx, 4, none⟩) (.slice (some ⟨gx, ox, none⟩) cl.length cx) (.inl (by simp))) (fun k hk => by simp; rintro rfl; exact hbn hk))
    have HX3 := Lib.hid (hxb.set_ 4 (.slice (some ⟨gx, ox, none⟩) cl.length cx))
    have HU3 : Hid (Upd [] wr (w2.setCell ⟨bx, 4, none⟩ (.slice (some ⟨gx, ox, none⟩) cl.length cx))) := (HUX0.out.trans hu1).setCell _ (.inr (by rw [HBXE.out]; exact Nat.le_refl _))
    have x4 := hxb.cell 4
    have xf := hxb.frozen 4
    have xl := hxb.lt
    simp only [List.size_toArray, List.length_cons, List.length_nil, List.getElem?_toArray, List.getElem?_cons_zero, List.getElem?_cons_succ] at x4
    clear hv1 hf1 hu1 hxb hbn c0 c1 c2 c3 c4
    go_upto_region 9 with (fail)
    clear x4 xf xl
    generalize hw3 : w2.setCell ⟨bx, 4, none⟩ (.slice (some ⟨gx, ox, none⟩) cl.length cx) = w3 at *
    clear hw3
    have HXC : Hid (∀ W, Upd [] w3 W → Blk W bx 24 #[.int .i64 t, .int .i64 s, .int .i64 ns, .int .i64 nr, .slice (some ⟨gx, ox, none⟩) cl.length cx] ∧ AvsAt W (.slice (some ⟨gx, ox, none⟩) cl.length cx) cl ∧ Blk W bc 24 #[.int .i64 t, .int .i64 s, .int .i64 ns, .int .i64 nr, .slice ao n cap] ∧ AvsAt W (.slice ao n cap) cl) := fun W hW =>
      ⟨HX3.out.upd hW (by simp), AvsAt.of_own ((HV3.out.updD hW).own bkCAvps_len), HCC1.out W (HU3.out.trans hW), HL0.out.upd (HUR.out.trans (HU3.out.trans hW))⟩
    clear HX3 HX0 HUX0 HLX0 HCC1
    obtain ⟨x0, x1, x2, x3, x4, -⟩ := ctl5 (HXC.out w3 (Upd.refl _ _)).1
    go_wp2_with fail
    refine (msgPutM_any ⟨t, s, ns, nr, cl⟩ _ secret _ (HXC.out w3 (Upd.refl _ _)).2.1 HSZ.out.1).mono ?_
    rintro e w4 ⟨rfl, hu4⟩
    rw [HQ.out]
    have HU4 := Lib.hid hu4
    clear hu4 x0 x1 x2 x3 x4
    obtain ⟨c0, c1, c2, c3, c4, -⟩ := ctl5 (HXC.out w4 HU4.out).2.2.1
    go_wp2_with fail
    refine (rputCtl_any ⟨t, s, ns, nr, cl⟩ _ secret _ (by have h := (HXC.out w4 HU4.out).2.2.2; exact h) HSZ.out.1).mono ?_
    rintro e w5 ⟨rfl, hu5⟩
    rw [HQ.out]
    have HU5 := Lib.hid (HU4.out.trans hu5)
    clear hu5 c0 c1 c2 c3 c4 HU4
    go_wp2_with fail
    refine (msgGet_any b secret HSZ.out.2.1 HSZ.out.1 _).mono ?_
    rintro e w6 ⟨⟨v6, own6, rfl, ho6, hf6, hu6⟩⟩
    rw [HR.out] at ho6
    rw [HR.out]
    dsimp only at ho6
    obtain ⟨a6, c6, rfl, -, -⟩ := ho6.shape
    simp only [Cm.val]
    have HB6 := Lib.hid (Blk.new w6 24 #[.int .i64 pt, .int .i64 ps, .int .i64 pn, .int .i64 pr, .slice a6 pl.length c6])
    have HO6 := Lib.hid (ho6.alloc (.cells #[.int .i64 pt, .int .i64 ps, .int .i64 pn, .int .i64 pr, .slice a6 pl.length c6] 24))
    have HU6 := Lib.hid ((HU5.out.trans hu6).alloc (.cells #[.int .i64 pt, .int .i64 ps, .int .i64 pn, .int .i64 pr, .slice a6 pl.length c6] 24))
    have HF6 : Hid (∀ y ∈ own6, w3.heap.size ≤ y) := fun y hy => Nat.le_trans HU5.out.size (hf6 y hy)
    clear ho6 hf6 hu6 HU5
    go_upto_region 12 with (fail)
    obtain ⟨bp, hbp⟩ : ∃ x, x = w6.heap.size := ⟨_, rfl⟩
    rw [← hbp] at HB6 ⊢
    generalize hw7 : w6.alloc (.cells #[.int .i64 pt, .int .i64 ps, .int .i64 pn, .int .i64 pr, .slice a6 pl.length c6] 24) = w7 at *
    clear hw7 hbp
    go_wp2_with fail
    refine (rgetCtl_any b secret HSZ.out.2.1 HSZ.out.1 _).mono ?_
    rintro e w8 ⟨⟨v8, own8, rfl, ho8, -, hu8⟩⟩
    rw [HR.out] at ho8
    rw [HR.out]
    dsimp only at ho8
    obtain ⟨a8, c8, rfl, -, -⟩ := ho8.shape
    simp only [Cm.val]
    have HB8 := Lib.hid (Blk.new w8 24 #[.int .i64 pt, .int .i64 ps, .int .i64 pn, .int .i64 pr, .slice a8 pl.length c8])
    have HO8 := Lib.hid (ho8.alloc (.cells #[.int .i64 pt, .int .i64 ps, .int .i64 pn, .int .i64 pr, .slice a8 pl.length c8] 24))
    have HU8 := Lib.hid (hu8.alloc (.cells #[.int .i64 pt, .int .i64 ps, .int .i64 pn, .int .i64 pr, .slice a8 pl.length c8] 24))
    clear ho8 hu8
    go_upto_region 13 with (fail)
    obtain ⟨bq, hbq⟩ : ∃ x, x = w8.heap.size := ⟨_, rfl⟩
    rw [← hbq] at HB8 ⊢
    generalize hw9 : w8.alloc (.cells #[.int .i64 pt, .int .i64 ps, .int .i64 pn, .int .i64 pr, .slice a8 pl.length c8] 24) = w9 at *
    clear hw9 hbq
    have HU9 : Hid (Upd [] w3 w9) := HU6.out.trans HU8.out
    have HPQ : Hid (∀ W, Upd [] w9 W → Blk W bp 24 #[.int .i64 pt, .int .i64 ps, .int .i64 pn, .int .i64 pr, .slice a6 pl.length c6] ∧ AvsAt W (.slice a6 pl.length c6) pl ∧ Blk W bq 24 #[.int .i64 pt, .int .i64 ps, .int .i64 pn, .int .i64 pr, .slice a8 pl.length c8] ∧ AvsAt W (.slice a8 pl.length c8) pl) := fun W hW =>
      ⟨HB6.out.upd (HU8.out.trans hW) (by simp), (AvsAt.of_own HO6.out).upd (HU8.out.trans hW), HB8.out.upd hW (by simp), (AvsAt.of_own HO8.out).upd hW⟩
    have HO9 := Lib.hid (HO6.out.updD HU8.out)
    clear HB6 HB8 HO6 HO8 HU6 HU8
    refine wp_region_chain [some (.string q0), some (.string q0), some (.bool false), some (.bool false), some (.int .i64 q1), some (.int .i64 q1), some (.bool false), some (.bool false), some (.bool false), some (.agg #[.int .i64 pt, .int .i64 ps, .int .i64 pn, .int .i64 pr, .slice a6 pl.length c6]), some (.agg #[.int .i64 pt, .int .i64 ps, .int .i64 pn, .int .i64 pr, .slice a8 pl.length c8]), some (.bool true), some (.bool false), some (.bool false), some (.bool false), some (.int .i64 r1), some (.int .i64 r1), some (.bool false), some (.bool false), some (.bool false), some (.agg #[.int .i64 t, .int .i64 s, .int .i64 ns, .int .i64 nr, .slice (some ⟨gx, ox, none⟩) cl.length cx]), some (.int .i64 kd), some (.agg #[.int .i64 t, .int .i64 s, .int .i64 ns, .int .i64 nr, .slice ao n cap]), some (.int .i64 kd), some (.bool false), some (.bool false), some (.bool false), some (.agg #[.int .i64 t, .int .i64 s, .int .i64 ns, .int .i64 nr, .slice (some ⟨gx, ox, none⟩) cl.length cx]), some (.int .i64 ck), some (.agg #[.int .i64 t, .int .i64 s, .int .i64 ns, .int .i64 nr, .slice ao n cap]), some (.int .i64 ck), some (.bool false), some (.bool false)] [11] (upA w9) [(0, 0), (0, 0), (0, 0), (0, 0), (0, 0), (0, 0), (0, 0), (0, 0), (0, 0), (0, 0), (0, 0), (0, 0), (1, 1), (1, 1), (1, 1), (1, 1), (1, 1), (1, 1), (1, 1), (1, 1), (1, 1), (1, 1), (1, 1), (1, 1), (1, 1), (1, 1), (1, 1), (1, 1), (1, 1), (1, 1), (1, 1), (1, 1), (1, 1)] (by kernel_rfl) (by kernel_rfl) (by kernel_rfl) (by kernel_rfl) (by kernel_rfl) (by kernel_rfl) ((Upd.refl [] w9).drew) ?_ ?_
    · refine StepsC.cons ?_ (StepsC.cons ?_ (StepsC.cons ?_ (StepsC.cons ?_ (StepsC.cons ?_ (StepsC.cons ?_ (StepsC.cons ?_ (StepsC.cons ?_ (StepsC.cons ?_ (StepsC.cons ?_ (StepsC.cons ?_ (StepsC.cons ?_ (StepsC.cons ?_ (StepsC.cons ?_ (StepsC.cons ?_ (StepsC.cons ?_ (StepsC.cons ?_ (StepsC.cons ?_ (StepsC.cons ?_ (StepsC.cons ?_ (StepsC.cons ?_ (StepsC.cons ?_ (StepsC.cons ?_ (StepsC.cons ?_ (StepsC.cons ?_ (StepsC.cons ?_ (StepsC.cons ?_ (StepsC.cons ?_ (StepsC.cons ?_ (StepsC.cons ?_ (StepsC.cons ?_ (StepsC.cons ?_ (StepsC.cons ?_ StepsC.nil))))))))))))))))))))))))))))))))
      · refine chain_is _ (.inl rfl) ⟨_, rfl⟩ (by kernel_rfl) rfl ?_
        intro a W kst l0 h0 A0 hF hD
        have k0 : kst = 0 := Nat.le_antisymm h0 l0
        subst k0
        clear l0 h0
        have e14 : a.tmps[14]?.getD undef = _ := (ev a 14).symm.trans (hF 14 (by kernel_rfl))
        clear hF hD
        go_simp
      · refine chain_is _ (.inl rfl) ⟨_, rfl⟩ (by kernel_rfl) rfl ?_
        intro a W kst l0 h0 A0 hF hD
        have k0 : kst = 0 := Nat.le_antisymm h0 l0
        subst k0
        clear l0 h0
        have e16 : a.tmps[16]?.getD undef = _ := (ev a 16).symm.trans (hF 16 (by kernel_rfl))
        clear hF hD
        go_simp
      · refine chain_is _ (.inl rfl) ⟨_, rfl⟩ (by kernel_rfl) rfl ?_
        intro a W kst l0 h0 A0 hF hD
        have k0 : kst = 0 := Nat.le_antisymm h0 l0
        subst k0
        clear l0 h0
        have e84 : a.tmps[84]?.getD undef = .string q0 := (ev a 84).symm.trans (hD _ (Array.mem_of_getElem? (i := 0) rfl) rfl)
        have e85 : a.tmps[85]?.getD undef = .string q0 := (ev a 85).symm.trans (hD _ (Array.mem_of_getElem? (i := 1) rfl) rfl)
        clear hF hD
        go_simp
      · refine chain_is _ (.inl rfl) ⟨_, rfl⟩ (by kernel_rfl) rfl ?_
        intro a W kst l0 h0 A0 hF hD
        have k0 : kst = 0 := Nat.le_antisymm h0 l0
        subst k0
        clear l0 h0
        have e86 : a.tmps[86]?.getD undef = .bool false := (ev a 86).symm.trans (hD _ (Array.mem_of_getElem? (i := 0) rfl) rfl)
        clear hF hD
        go_simp
      · refine chain_is _ (.inr ⟨_, _, _, rfl, Array.mem_of_getElem? (i := 0) rfl, rfl, rfl, fun _ h => h⟩) ⟨_, rfl⟩ (by kernel_rfl) rfl ?_
        intro a W kst l0 h0 A0 hF hD
        have k0 : kst = 0 := Nat.le_antisymm h0 l0
        subst k0
        clear l0 h0
        have e15 : a.tmps[15]?.getD undef = _ := (ev a 15).symm.trans (hF 15 (by kernel_rfl))
        clear hF hD
        go_simp
      · refine chain_is _ (.inr ⟨_, _, _, rfl, Array.mem_of_getElem? (i := 0) rfl, rfl, rfl, fun _ h => h⟩) ⟨_, rfl⟩ (by kernel_rfl) rfl ?_
        intro a W kst l0 h0 A0 hF hD
        have k0 : kst = 0 := Nat.le_antisymm h0 l0
        subst k0
        clear l0 h0
        have e17 : a.tmps[17]?.getD undef = _ := (ev a 17).symm.trans (hF 17 (by kernel_rfl))
        clear hF hD
        go_simp
      · refine chain_is _ (.inr ⟨_, _, _, rfl, Array.mem_of_getElem? (i := 2) rfl, rfl, rfl, fun _ h => h⟩) ⟨_, rfl⟩ (by kernel_rfl) rfl ?_
        intro a W kst l0 h0 A0 hF hD
        have k0 : kst = 0 := Nat.le_antisymm h0 l0
        subst k0
        clear l0 h0
        have e88 : a.tmps[88]?.getD undef = .int .i64 q1 := (ev a 88).symm.trans (hD _ (Array.mem_of_getElem? (i := 0) rfl) rfl)
        have e89 : a.tmps[89]?.getD undef = .int .i64 q1 := (ev a 89).symm.trans (hD _ (Array.mem_of_getElem? (i := 1) rfl) rfl)
        clear hF hD
        go_simp
      · refine chain_is _ (.inl rfl) ⟨_, rfl⟩ (by kernel_rfl) rfl ?_
        intro a W kst l0 h0 A0 hF hD
        have k0 : kst = 0 := Nat.le_antisymm h0 l0
        subst k0
        clear l0 h0
        have e87 : a.tmps[87]?.getD undef = .bool false := (ev a 87).symm.trans (hD _ (Array.mem_of_getElem? (i := 0) rfl) rfl)
        have e90 : a.tmps[90]?.getD undef = .bool false := (ev a 90).symm.trans (hD _ (Array.mem_of_getElem? (i := 1) rfl) rfl)
        clear hF hD
        go_simp
      · refine chain_is _ (.inl rfl) ⟨_, rfl⟩ (by kernel_rfl) rfl ?_
        intro a W kst l0 h0 A0 hF hD
        have k0 : kst = 0 := Nat.le_antisymm h0 l0
        subst k0
        clear l0 h0
        have e91 : a.tmps[91]?.getD undef = .bool false := (ev a 91).symm.trans (hD _ (Array.mem_of_getElem? (i := 0) rfl) rfl)
        clear hF hD
        go_simp
      · refine chain_is _ (.inr ⟨_, _, _, rfl, Array.mem_of_getElem? (i := 0) rfl, rfl, rfl, fun _ h => h⟩) ⟨_, rfl⟩ (by kernel_rfl) rfl ?_
        intro a W kst l0 h0 A0 hF hD
        have k0 : kst = 0 := Nat.le_antisymm h0 l0
        subst k0
        clear l0 h0
        have e18 : a.tmps[18]?.getD undef = _ := (ev a 18).symm.trans (hF 18 (by kernel_rfl))
        clear hF hD
        obtain ⟨x0, x1, x2, x3, x4, -⟩ := ctl5 (HPQ.out W A0).1
        go_simp
      · refine chain_is _ (.inr ⟨_, _, _, rfl, Array.mem_of_getElem? (i := 0) rfl, rfl, rfl, fun _ h => h⟩) ⟨_, rfl⟩ (by kernel_rfl) rfl ?_
        intro a W kst l0 h0 A0 hF hD
        have k0 : kst = 0 := Nat.le_antisymm h0 l0
        subst k0
        clear l0 h0
        have e20 : a.tmps[20]?.getD undef = _ := (ev a 20).symm.trans (hF 20 (by kernel_rfl))
        clear hF hD
        obtain ⟨x0, x1, x2, x3, x4, -⟩ := ctl5 (HPQ.out W A0).2.2.1
        go_simp
      · refine chain_call (.inr ⟨_, _, _, rfl, Array.mem_of_getElem? (i := 2) rfl, rfl, rfl, fun _ h => h⟩) ⟨_, rfl⟩ (by kernel_rfl) ?_
        intro a W kst l0 h0 A0 hF hD
        have k0 : kst = 0 := Nat.le_antisymm h0 l0
        subst k0
        clear l0 h0
        have e93 : a.tmps[93]?.getD undef = .agg #[.int .i64 pt, .int .i64 ps, .int .i64 pn, .int .i64 pr, .slice a6 pl.length c6] := (ev a 93).symm.trans (hD _ (Array.mem_of_getElem? (i := 0) rfl) rfl)
        have e94 : a.tmps[94]?.getD undef = .agg #[.int .i64 pt, .int .i64 ps, .int .i64 pn, .int .i64 pr, .slice a8 pl.length c8] := (ev a 94).symm.trans (hD _ (Array.mem_of_getElem? (i := 1) rfl) rfl)
        clear hF hD
        refine ⟨_, _, by (go_simp; first | done | rfl | exact ⟨rfl, rfl⟩), ?_⟩
        refine (sameCtl_eq ⟨pt, ps, pn, pr, pl⟩ _ _ _ (HPQ.out W A0).2.1 (HPQ.out W A0).2.2.2).mono ?_
        rintro e w2 ⟨rfl, hu⟩
        exact ⟨_, rfl, rfl, Upd.trans A0 hu⟩
      · refine chain_is _ (.inr ⟨_, _, _, rfl, Array.mem_of_getElem? (i := 1) rfl, rfl, rfl, fun _ h => h⟩) ⟨_, rfl⟩ (by kernel_rfl) rfl ?_
        intro a W kst l0 h0 A0 hF hD
        have k0 : kst = 1 := Nat.le_antisymm h0 l0
        subst k0
        clear l0 h0
        have e95 : a.tmps[95]?.getD undef = .bool true := (ev a 95).symm.trans (hD _ (Array.mem_of_getElem? (i := 0) rfl) rfl)
        clear hF hD
        go_simp
      · refine chain_is _ (.inl rfl) ⟨_, rfl⟩ (by kernel_rfl) rfl ?_
        intro a W kst l0 h0 A0 hF hD
        have k0 : kst = 1 := Nat.le_antisymm h0 l0
        subst k0
        clear l0 h0
        have e92 : a.tmps[92]?.getD undef = .bool false := (ev a 92).symm.trans (hD _ (Array.mem_of_getElem? (i := 0) rfl) rfl)
        have e96 : a.tmps[96]?.getD undef = .bool false := (ev a 96).symm.trans (hD _ (Array.mem_of_getElem? (i := 1) rfl) rfl)
        clear hF hD
        go_simp
      · refine chain_is _ (.inl rfl) ⟨_, rfl⟩ (by kernel_rfl) rfl ?_
        intro a W kst l0 h0 A0 hF hD
        have k0 : kst = 1 := Nat.le_antisymm h0 l0
        subst k0
        clear l0 h0
        have e97 : a.tmps[97]?.getD undef = .bool false := (ev a 97).symm.trans (hD _ (Array.mem_of_getElem? (i := 0) rfl) rfl)
        clear hF hD
        go_simp
      · refine chain_is _ (.inr ⟨_, _, _, rfl, Array.mem_of_getElem? (i := 0) rfl, rfl, rfl, fun _ h => h⟩) ⟨_, rfl⟩ (by kernel_rfl) rfl ?_
        intro a W kst l0 h0 A0 hF hD
        have k0 : kst = 1 := Nat.le_antisymm h0 l0
        subst k0
        clear l0 h0
        have e19 : a.tmps[19]?.getD undef = _ := (ev a 19).symm.trans (hF 19 (by kernel_rfl))
        clear hF hD
        go_simp
      · refine chain_is _ (.inr ⟨_, _, _, rfl, Array.mem_of_getElem? (i := 0) rfl, rfl, rfl, fun _ h => h⟩) ⟨_, rfl⟩ (by kernel_rfl) rfl ?_
        intro a W kst l0 h0 A0 hF hD
        have k0 : kst = 1 := Nat.le_antisymm h0 l0
        subst k0
        clear l0 h0
        have e21 : a.tmps[21]?.getD undef = _ := (ev a 21).symm.trans (hF 21 (by kernel_rfl))
        clear hF hD
        go_simp
      · refine chain_is _ (.inr ⟨_, _, _, rfl, Array.mem_of_getElem? (i := 2) rfl, rfl, rfl, fun _ h => h⟩) ⟨_, rfl⟩ (by kernel_rfl) rfl ?_
        intro a W kst l0 h0 A0 hF hD
        have k0 : kst = 1 := Nat.le_antisymm h0 l0
        subst k0
        clear l0 h0
        have e99 : a.tmps[99]?.getD undef = .int .i64 r1 := (ev a 99).symm.trans (hD _ (Array.mem_of_getElem? (i := 0) rfl) rfl)
        have e100 : a.tmps[100]?.getD undef = .int .i64 r1 := (ev a 100).symm.trans (hD _ (Array.mem_of_getElem? (i := 1) rfl) rfl)
        clear hF hD
        go_simp
      · refine chain_is _ (.inl rfl) ⟨_, rfl⟩ (by kernel_rfl) rfl ?_
        intro a W kst l0 h0 A0 hF hD
        have k0 : kst = 1 := Nat.le_antisymm h0 l0
        subst k0
        clear l0 h0
        have e98 : a.tmps[98]?.getD undef = .bool false := (ev a 98).symm.trans (hD _ (Array.mem_of_getElem? (i := 0) rfl) rfl)
        have e101 : a.tmps[101]?.getD undef = .bool false := (ev a 101).symm.trans (hD _ (Array.mem_of_getElem? (i := 1) rfl) rfl)
        clear hF hD
        go_simp
      · refine chain_is _ (.inl rfl) ⟨_, rfl⟩ (by kernel_rfl) rfl ?_
        intro a W kst l0 h0 A0 hF hD
        have k0 : kst = 1 := Nat.le_antisymm h0 l0
        subst k0
        clear l0 h0
        have e102 : a.tmps[102]?.getD undef = .bool false := (ev a 102).symm.trans (hD _ (Array.mem_of_getElem? (i := 0) rfl) rfl)
        clear hF hD
        go_simp
      · refine chain_is _ (.inr ⟨_, _, _, rfl, Array.mem_of_getElem? (i := 0) rfl, rfl, rfl, fun _ h => h⟩) ⟨_, rfl⟩ (by kernel_rfl) rfl ?_
        intro a W kst l0 h0 A0 hF hD
        have k0 : kst = 1 := Nat.le_antisymm h0 l0
        subst k0
        clear l0 h0
        have e13 : a.tmps[13]?.getD undef = _ := (ev a 13).symm.trans (hF 13 (by kernel_rfl))
        clear hF hD
        obtain ⟨x0, x1, x2, x3, x4, -⟩ := ctl5 (HXC.out W (HU9.out.trans A0)).1
        go_simp
      · refine chain_beside _ (.inr ⟨_, _, _, rfl, Array.mem_of_getElem? (i := 1) rfl, rfl, rfl, fun _ h => h⟩) ⟨_, rfl⟩ (by kernel_rfl) rfl ?_
        intro a W kst l0 h0 A0 hF hD
        have k0 : kst = 1 := Nat.le_antisymm h0 l0
        subst k0
        clear l0 h0
        have e104 : a.tmps[104]?.getD undef = .agg #[.int .i64 t, .int .i64 s, .int .i64 ns, .int .i64 nr, .slice (some ⟨gx, ox, none⟩) cl.length cx] := (ev a 104).symm.trans (hD _ (Array.mem_of_getElem? (i := 0) rfl) rfl)
        clear hF hD
        refine ⟨_, _, by (go_simp; first | done | rfl | exact ⟨rfl, rfl⟩), ?_⟩
        refine (kind_any t s ns nr _ cl _ (HXC.out W (HU9.out.trans A0)).2.1 HLM.out).mono ?_
        rintro e w2 ⟨rfl, hu⟩
        rw [HKD.out]
        exact ⟨rfl, Upd.trans A0 hu⟩
      · refine chain_is _ (.inr ⟨_, _, _, rfl, Array.mem_of_getElem? (i := 0) rfl, rfl, rfl, fun _ h => h⟩) ⟨_, rfl⟩ (by kernel_rfl) rfl ?_
        intro a W kst l0 h0 A0 hF hD
        have k0 : kst = 1 := Nat.le_antisymm h0 l0
        subst k0
        clear l0 h0
        have e5 : a.tmps[5]?.getD undef = _ := (ev a 5).symm.trans (hF 5 (by kernel_rfl))
        clear hF hD
        obtain ⟨x0, x1, x2, x3, x4, -⟩ := ctl5 (HXC.out W (HU9.out.trans A0)).2.2.1
        go_simp
      · refine chain_beside _ (.inr ⟨_, _, _, rfl, Array.mem_of_getElem? (i := 2) rfl, rfl, rfl, fun _ h => h⟩) ⟨_, rfl⟩ (by kernel_rfl) rfl ?_
        intro a W kst l0 h0 A0 hF hD
        have k0 : kst = 1 := Nat.le_antisymm h0 l0
        subst k0
        clear l0 h0
        have e106 : a.tmps[106]?.getD undef = .agg #[.int .i64 t, .int .i64 s, .int .i64 ns, .int .i64 nr, .slice ao n cap] := (ev a 106).symm.trans (hD _ (Array.mem_of_getElem? (i := 0) rfl) rfl)
        clear hF hD
        refine ⟨_, _, by (go_simp; first | done | rfl | exact ⟨rfl, rfl⟩), ?_⟩
        refine (rkind_any t s ns nr _ cl _ (HXC.out W (HU9.out.trans A0)).2.2.2 HLM.out).mono ?_
        rintro e w2 ⟨rfl, hu⟩
        rw [HKD.out]
        exact ⟨rfl, Upd.trans A0 hu⟩
      · refine chain_is _ (.inr ⟨_, _, _, rfl, Array.mem_of_getElem? (i := 2) rfl, rfl, rfl, fun _ h => h⟩) ⟨_, rfl⟩ (by kernel_rfl) rfl ?_
        intro a W kst l0 h0 A0 hF hD
        have k0 : kst = 1 := Nat.le_antisymm h0 l0
        subst k0
        clear l0 h0
        have e105 : a.tmps[105]?.getD undef = .int .i64 kd := (ev a 105).symm.trans (hD _ (Array.mem_of_getElem? (i := 0) rfl) rfl)
        have e107 : a.tmps[107]?.getD undef = .int .i64 kd := (ev a 107).symm.trans (hD _ (Array.mem_of_getElem? (i := 1) rfl) rfl)
        clear hF hD
        go_simp
      · refine chain_is _ (.inl rfl) ⟨_, rfl⟩ (by kernel_rfl) rfl ?_
        intro a W kst l0 h0 A0 hF hD
        have k0 : kst = 1 := Nat.le_antisymm h0 l0
        subst k0
        clear l0 h0
        have e103 : a.tmps[103]?.getD undef = .bool false := (ev a 103).symm.trans (hD _ (Array.mem_of_getElem? (i := 0) rfl) rfl)
        have e108 : a.tmps[108]?.getD undef = .bool false := (ev a 108).symm.trans (hD _ (Array.mem_of_getElem? (i := 1) rfl) rfl)
        clear hF hD
        go_simp
      · refine chain_is _ (.inl rfl) ⟨_, rfl⟩ (by kernel_rfl) rfl ?_
        intro a W kst l0 h0 A0 hF hD
        have k0 : kst = 1 := Nat.le_antisymm h0 l0
        subst k0
        clear l0 h0
        have e109 : a.tmps[109]?.getD undef = .bool false := (ev a 109).symm.trans (hD _ (Array.mem_of_getElem? (i := 0) rfl) rfl)
        clear hF hD
        go_simp
      · refine chain_is _ (.inr ⟨_, _, _, rfl, Array.mem_of_getElem? (i := 0) rfl, rfl, rfl, fun _ h => h⟩) ⟨_, rfl⟩ (by kernel_rfl) rfl ?_
        intro a W kst l0 h0 A0 hF hD
        have k0 : kst = 1 := Nat.le_antisymm h0 l0
        subst k0
        clear l0 h0
        have e13 : a.tmps[13]?.getD undef = _ := (ev a 13).symm.trans (hF 13 (by kernel_rfl))
        clear hF hD
        obtain ⟨x0, x1, x2, x3, x4, -⟩ := ctl5 (HXC.out W (HU9.out.trans A0)).1
        go_simp
      · refine chain_beside _ (.inr ⟨_, _, _, rfl, Array.mem_of_getElem? (i := 1) rfl, rfl, rfl, fun _ h => h⟩) ⟨_, rfl⟩ (by kernel_rfl) rfl ?_
        intro a W kst l0 h0 A0 hF hD
        have k0 : kst = 1 := Nat.le_antisymm h0 l0
        subst k0
        clear l0 h0
        have e111 : a.tmps[111]?.getD undef = .agg #[.int .i64 t, .int .i64 s, .int .i64 ns, .int .i64 nr, .slice (some ⟨gx, ox, none⟩) cl.length cx] := (ev a 111).symm.trans (hD _ (Array.mem_of_getElem? (i := 0) rfl) rfl)
        clear hF hD
        refine ⟨_, _, by (go_simp; first | done | rfl | exact ⟨rfl, rfl⟩), ?_⟩
        refine (check_any t s ns nr _ cl _ (HXC.out W (HU9.out.trans A0)).2.1 HLM.out).mono ?_
        rintro e w2 ⟨rfl, hu⟩
        rw [HCK.out]
        exact ⟨rfl, Upd.trans A0 hu⟩
      · refine chain_is _ (.inr ⟨_, _, _, rfl, Array.mem_of_getElem? (i := 0) rfl, rfl, rfl, fun _ h => h⟩) ⟨_, rfl⟩ (by kernel_rfl) rfl ?_
        intro a W kst l0 h0 A0 hF hD
        have k0 : kst = 1 := Nat.le_antisymm h0 l0
        subst k0
        clear l0 h0
        have e5 : a.tmps[5]?.getD undef = _ := (ev a 5).symm.trans (hF 5 (by kernel_rfl))
        clear hF hD
        obtain ⟨x0, x1, x2, x3, x4, -⟩ := ctl5 (HXC.out W (HU9.out.trans A0)).2.2.1
        go_simp
      · refine chain_beside _ (.inr ⟨_, _, _, rfl, Array.mem_of_getElem? (i := 2) rfl, rfl, rfl, fun _ h => h⟩) ⟨_, rfl⟩ (by kernel_rfl) rfl ?_
        intro a W kst l0 h0 A0 hF hD
        have k0 : kst = 1 := Nat.le_antisymm h0 l0
        subst k0
        clear l0 h0
        have e113 : a.tmps[113]?.getD undef = .agg #[.int .i64 t, .int .i64 s, .int .i64 ns, .int .i64 nr, .slice ao n cap] := (ev a 113).symm.trans (hD _ (Array.mem_of_getElem? (i := 0) rfl) rfl)
        clear hF hD
        refine ⟨_, _, by (go_simp; first | done | rfl | exact ⟨rfl, rfl⟩), ?_⟩
        refine (rcheck_any t s ns nr _ cl _ (HXC.out W (HU9.out.trans A0)).2.2.2 HLM.out).mono ?_
        rintro e w2 ⟨rfl, hu⟩
        rw [HCK.out]
        exact ⟨rfl, Upd.trans A0 hu⟩
      · refine chain_is _ (.inr ⟨_, _, _, rfl, Array.mem_of_getElem? (i := 2) rfl, rfl, rfl, fun _ h => h⟩) ⟨_, rfl⟩ (by kernel_rfl) rfl ?_
        intro a W kst l0 h0 A0 hF hD
        have k0 : kst = 1 := Nat.le_antisymm h0 l0
        subst k0
        clear l0 h0
        have e112 : a.tmps[112]?.getD undef = .int .i64 ck := (ev a 112).symm.trans (hD _ (Array.mem_of_getElem? (i := 0) rfl) rfl)
        have e114 : a.tmps[114]?.getD undef = .int .i64 ck := (ev a 114).symm.trans (hD _ (Array.mem_of_getElem? (i := 1) rfl) rfl)
        clear hF hD
        go_simp
      · refine chain_is _ (.inl rfl) ⟨_, rfl⟩ (by kernel_rfl) rfl ?_
        intro a W kst l0 h0 A0 hF hD
        have k0 : kst = 1 := Nat.le_antisymm h0 l0
        subst k0
        clear l0 h0
        have e110 : a.tmps[110]?.getD undef = .bool false := (ev a 110).symm.trans (hD _ (Array.mem_of_getElem? (i := 0) rfl) rfl)
        have e115 : a.tmps[115]?.getD undef = .bool false := (ev a 115).symm.trans (hD _ (Array.mem_of_getElem? (i := 1) rfl) rfl)
        clear hF hD
        go_simp
    intro vals W hv hA
    have v0 : vals 0 = .string q0 := hv 0 (by decide)
    have v1 : vals 1 = .string q0 := hv 1 (by decide)
    have v2 : vals 2 = .bool false := hv 2 (by decide)
    have v3 : vals 3 = .bool false := hv 3 (by decide)
    have v4 : vals 4 = .int .i64 q1 := hv 4 (by decide)
    have v5 : vals 5 = .int .i64 q1 := hv 5 (by decide)
    have v6 : vals 6 = .bool false := hv 6 (by decide)
    have v7 : vals 7 = .bool false := hv 7 (by decide)
    have v8 : vals 8 = .bool false := hv 8 (by decide)
    have v9 : vals 9 = .agg #[.int .i64 pt, .int .i64 ps, .int .i64 pn, .int .i64 pr, .slice a6 pl.length c6] := hv 9 (by decide)
    have v10 : vals 10 = .agg #[.int .i64 pt, .int .i64 ps, .int .i64 pn, .int .i64 pr, .slice a8 pl.length c8] := hv 10 (by decide)
    have v11 : vals 11 = .bool true := hv 11 (by decide)
    have v12 : vals 12 = .bool false := hv 12 (by decide)
    have v13 : vals 13 = .bool false := hv 13 (by decide)
    have v14 : vals 14 = .bool false := hv 14 (by decide)
    have v15 : vals 15 = .int .i64 r1 := hv 15 (by decide)
    have v16 : vals 16 = .int .i64 r1 := hv 16 (by decide)
    have v17 : vals 17 = .bool false := hv 17 (by decide)
    have v18 : vals 18 = .bool false := hv 18 (by decide)
    have v19 : vals 19 = .bool false := hv 19 (by decide)
    have v20 : vals 20 = .agg #[.int .i64 t, .int .i64 s, .int .i64 ns, .int .i64 nr, .slice (some ⟨gx, ox, none⟩) cl.length cx] := hv 20 (by decide)
    have v21 : vals 21 = .int .i64 kd := hv 21 (by decide)
    have v22 : vals 22 = .agg #[.int .i64 t, .int .i64 s, .int .i64 ns, .int .i64 nr, .slice ao n cap] := hv 22 (by decide)
    have v23 : vals 23 = .int .i64 kd := hv 23 (by decide)
    have v24 : vals 24 = .bool false := hv 24 (by decide)
    have v25 : vals 25 = .bool false := hv 25 (by decide)
    have v26 : vals 26 = .bool false := hv 26 (by decide)
    have v27 : vals 27 = .agg #[.int .i64 t, .int .i64 s, .int .i64 ns, .int .i64 nr, .slice (some ⟨gx, ox, none⟩) cl.length cx] := hv 27 (by decide)
    have v28 : vals 28 = .int .i64 ck := hv 28 (by decide)
    have v29 : vals 29 = .agg #[.int .i64 t, .int .i64 s, .int .i64 ns, .int .i64 nr, .slice ao n cap] := hv 29 (by decide)
    have v30 : vals 30 = .int .i64 ck := hv 30 (by decide)
    have v31 : vals 31 = .bool false := hv 31 (by decide)
    have v32 : vals 32 = .bool false := hv 32 (by decide)
    clear hv
    have hu : Upd [] w9 W := hA
    simp only [putAll, Act.put, Nat.zero_add, Nat.reduceAdd, v0, v1, v2, v3, v4, v5, v6, v7, v8, v9, v10, v11, v12, v13, v14, v15, v16, v17, v18, v19, v20, v21, v22, v23, v24, v25, v26, v27, v28, v29, v30, v31, v32, List.setIfInBounds_toArray, List.set_cons_zero, List.set_cons_succ]
    clear v0 v1 v2 v3 v4 v5 v6 v7 v8 v9 v10 v11 v12 v13 v14 v15 v16 v17 v18 v19 v20 v21 v22 v23 v24 v25 v26 v27 v28 v29 v30 v31 v32
    have HU10 := Lib.hid hu
    clear hu hA
    generalize hw10 : W = w10 at *
    clear hw10
    have HU11 := Lib.hid (HU9.out.trans HU10.out)
    go_wp2_with fail
    refine wp_region_chain [some (.int .i64 kind), none, some (.int .i64 kind), some (.pointer (some ⟨bx, 4, none⟩)), some (.slice (some ⟨gx, ox, none⟩) cl.length cx), none, none, none] [1,5,6,7] (nmA w10 nd (numAv 0 kind 2 :: cl)) [(0, 0), (0, 0), (0, 1), (0, 1), (0, 1), (1, 1), (2, 2), (3, 3)] (by kernel_rfl) (by kernel_rfl) (by kernel_rfl) (by kernel_rfl) (by kernel_rfl) (by kernel_rfl) ((Upd.refl [] w10).drew) ?_ ?_
    · refine StepsC.cons ?_ (StepsC.cons ?_ (StepsC.cons ?_ (StepsC.cons ?_ (StepsC.cons ?_ (StepsC.cons ?_ (StepsC.cons ?_ (StepsC.cons ?_ StepsC.nil)))))))
      · refine chain_is _ (.inl rfl) ⟨_, rfl⟩ (by kernel_rfl) rfl ?_
        intro a W kst l0 h0 A0 hF hD
        have k0 : kst = 0 := Nat.le_antisymm h0 l0
        subst k0
        clear l0 h0
        have e4 : a.tmps[4]?.getD undef = _ := (ev a 4).symm.trans (hF 4 (by kernel_rfl))
        clear hF hD
        go_simp
      · refine chain_call (.inl rfl) ⟨_, rfl⟩ (by kernel_rfl) ?_
        intro a W kst l0 h0 A0 hF hD
        have k0 : kst = 0 := Nat.le_antisymm h0 l0
        subst k0
        clear l0 h0
        have e117 : a.tmps[117]?.getD undef = .int .i64 kind := (ev a 117).symm.trans (hD _ (Array.mem_of_getElem? (i := 0) rfl) rfl)
        clear hF hD
        refine ⟨_, _, by (go_simp; first | done | rfl | exact ⟨rfl, rfl⟩), ?_⟩
        refine (needsO_any kind _).mono ?_
        rintro e w2 ⟨⟨u, own, rfl, ho, hf, hu⟩⟩
        rw [HND.out] at ho
        obtain ⟨ao1, c1, e1, -, -⟩ := ho.shape
        exact ⟨u, rfl, trivial, Upd.trans A0 hu, ⟨ao1, c1, e1⟩, own, ho, fun k hk => Nat.le_trans (Upd.size A0) (hf k hk)⟩
      · refine chain_is _ (.inl rfl) ⟨_, rfl⟩ (by kernel_rfl) rfl ?_
        intro a W kst l0 h0 A0 hF hD
        have e4 : a.tmps[4]?.getD undef = _ := (ev a 4).symm.trans (hF 4 (by kernel_rfl))
        clear hF hD
        go_simp
      · refine chain_is _ (.inl rfl) ⟨_, rfl⟩ (by kernel_rfl) rfl ?_
        intro a W kst l0 h0 A0 hF hD
        have e13 : a.tmps[13]?.getD undef = _ := (ev a 13).symm.trans (hF 13 (by kernel_rfl))
        clear hF hD
        go_simp
      · refine chain_is _ (.inl rfl) ⟨_, rfl⟩ (by kernel_rfl) rfl ?_
        intro a W kst l0 h0 A0 hF hD
        have e120 : a.tmps[120]?.getD undef = .pointer (some ⟨bx, 4, none⟩) := (ev a 120).symm.trans (hD _ (Array.mem_of_getElem? (i := 0) rfl) rfl)
        clear hF hD
        obtain ⟨x0, x1, x2, x3, x4, -⟩ := ctl5 (HXC.out W (HU11.out.trans (nmA_upd A0))).1
        go_simp
      · refine chain_call (.inl rfl) ⟨_, rfl⟩ (by kernel_rfl) ?_
        intro a W kst l0 h0 A0 hF hD
        have k0 : kst = 1 := Nat.le_antisymm h0 l0
        subst k0
        clear l0 h0
        have e119 : a.tmps[119]?.getD undef = .int .i64 kind := (ev a 119).symm.trans (hD _ (Array.mem_of_getElem? (i := 0) rfl) rfl)
        have e121 : a.tmps[121]?.getD undef = .slice (some ⟨gx, ox, none⟩) cl.length cx := (ev a 121).symm.trans (hD _ (Array.mem_of_getElem? (i := 1) rfl) rfl)
        clear hF hD
        obtain ⟨hu, hs, own0, ho0, hf0⟩ := A0
        refine ⟨_, _, by (go_simp; first | done | rfl | exact ⟨rfl, rfl⟩), ?_⟩
        refine (make_any kind cl _ _ (HXC.out W (HU11.out.trans hu)).2.1 (by have := HLL.out; omega)).mono ?_
        rintro e w2 ⟨u, own, rfl, ho, hf, hu2⟩
        have ho2 : Own w2 85 5 u (numAv 0 kind 2 :: cl).length (avCells (numAv 0 kind 2 :: cl)) own := by (rw [List.length_cons, Nat.add_comm]; exact ho)
        obtain ⟨ao1, c1, e1, -, -⟩ := ho2.shape
        exact ⟨u, rfl, trivial, hu.trans hu2, hs, ⟨ao1, c1, e1⟩, ⟨own0, ho0.updD hu2, hf0⟩, own, ho2, fun k hk => Nat.le_trans hu.size (hf k hk)⟩
      · refine chain_run (.inl rfl) ⟨_, rfl⟩ (by kernel_rfl) ?_
        intro a W kst l0 h0 A0 hF hD
        have k0 : kst = 2 := Nat.le_antisymm h0 l0
        subst k0
        clear l0 h0
        clear hF hD
        exact ⟨_, W, by (go_simp; first | done | rfl), trivial, A0, (ev a 118).symm⟩
      · refine chain_run (.inl rfl) ⟨_, rfl⟩ (by kernel_rfl) ?_
        intro a W kst l0 h0 A0 hF hD
        have k0 : kst = 3 := Nat.le_antisymm h0 l0
        subst k0
        clear l0 h0
        clear hF hD
        exact ⟨_, W, by (go_simp; first | done | rfl), trivial, A0.1, A0.2, (ev a 122).symm⟩
    intro vals W hv hA
    have v0 : vals 0 = .int .i64 kind := hv 0 (by decide)
    have v2 : vals 2 = .int .i64 kind := hv 2 (by decide)
    have v3 : vals 3 = .pointer (some ⟨bx, 4, none⟩) := hv 3 (by decide)
    have v4 : vals 4 = .slice (some ⟨gx, ox, none⟩) cl.length cx := hv 4 (by decide)
    clear hv
    obtain ⟨⟨hu, ⟨an, cn, hvn⟩, ⟨am, cm, hvm⟩, ⟨ownN, hoN, hfN⟩, ownM, hoM, hfM⟩, h6, h7⟩ := hA
    rw [hvn] at hoN
    rw [hvm] at hoM
    have v6 : vals 6 = .slice an nd.length cn := h6.trans hvn
    have v7 : vals 7 = .slice am (numAv 0 kind 2 :: cl).length cm := h7.trans hvm
    simp only [putAll, Act.put, Nat.zero_add, Nat.reduceAdd, v6, v7, v0, v2, v3, v4, List.setIfInBounds_toArray, List.set_cons_zero, List.set_cons_succ]
    clear v0 v2 v3 v4
    have HU12 := Lib.hid hu
    have HON := Lib.hid hoN
    have HOM := Lib.hid hoM
    have HFN := Lib.hid hfN
    have HFM := Lib.hid hfM
    clear hu hoN hoM hfN hfM h6 h7 hvn hvm v6 v7
    obtain ⟨M, hM⟩ : ∃ M, M = numAv 0 kind 2 :: cl := ⟨_, rfl⟩
    have hML : M.length = cl.length + 1 := by rw [hM]; rfl
    rw [← hM] at HOM ⊢
    have HM := Lib.hid hM
    obtain ⟨ml, hml⟩ : ∃ x, x = M.length := ⟨_, rfl⟩
    obtain ⟨nl, hnl⟩ : ∃ x, x = nd.length := ⟨_, rfl⟩
    rw [← hml] at HOM ⊢
    rw [← hnl] at HON ⊢
    have HML := Lib.hid (And.intro hml hML)
    have HNLL := Lib.hid hnl
    generalize hw13 : W = w13 at *
    clear hw13 hml hnl hM hML
    have HU13 := Lib.hid (HU11.out.trans HU12.out)
    go_wp2_with fail
    refine (rneeds_any kind _).mono ?_
    rintro e w14 ⟨⟨u14, own14, rfl, ho14, -, hu14⟩⟩
    rw [HND.out] at ho14
    obtain ⟨a14, c14, rfl, -, -⟩ := ho14.shape
    have HI14 := Lib.hid ho14
    have HU14 := Lib.hid hu14
    clear ho14 hu14
    rw [← HNLL.out]
    go_wp2_with fail
    refine (bkSameInts nd _ _ _ (by rw [flat_ints, ← HNLL.out]; exact (HON.out.updD HU14.out).rdB (by simp [Value.oneCell'])) (by rw [flat_ints, ← HNLL.out]; have h := HI14.out; rw [← HNLL.out] at h; exact h.rdB (by simp [Value.oneCell']))).mono ?_
    rintro e w15 ⟨rfl, y15, hy15⟩
    have HU15 : Hid (Upd [] w13 w15) := HU14.out.trans (hy15 ▸ (Upd.refl _ _).drewN y15)
    clear hy15 HI14 HU14
    have HU15b := Lib.hid (HU13.out.trans HU15.out)
    obtain ⟨c0, c1, c2, c3, c4, -⟩ := ctl5 (HXC.out w15 HU15b.out).2.2.1
    go_wp2_with fail
    refine (rmake_any kind HKR.out cl _ _ (by have h := (HXC.out w15 HU15b.out).2.2.2; exact h) (by have := HLL.out; omega)).mono ?_
    rintro e w16 ⟨u16, own16, rfl, ho16, -, hu16⟩
    obtain ⟨a16, c16, rfl, -, -⟩ := ho16.shape
    have hR16 : Rd w16 5 (.slice a16 (1 + cl.length) c16) M.length (M.flatMap bkCAvps) := by
      have ho17 : Own w16 85 5 (.slice a16 (1 + cl.length) c16) M.length (avCells M) own16 := by
        rw [HM.out, List.length_cons, Nat.add_comm cl.length 1]
        exact ho16
      exact (AvsAt.of_own ho17).rd
    have HR16 := Lib.hid hR16
    have HU16 := Lib.hid (HU15.out.trans hu16)
    clear hR16 ho16 hu16 c0 c1 c2 c3 c4 HU15b HU15
    go_wp2_with fail
    refine (bkSameAvps M _ _ _ (by have h := (HOM.out.updD HU16.out).rdB (by rw [HM.out]; exact bkCAvps_one _); rw [← HML.out.1]; exact h) HR16.out).mono ?_
    rintro e w17 ⟨rfl, y17, hy17⟩
    have HU17 : Hid (Upd [] w13 w17) := HU16.out.trans (hy17 ▸ (Upd.refl _ _).drewN y17)
    clear hy17 HU16 HR16
    have HU17b := Lib.hid (HU13.out.trans HU17.out)
    obtain ⟨c0, c1, c2, c3, c4, -⟩ := ctl5 (HXC.out w17 HU17b.out).2.2.1
    obtain ⟨x0, x1, x2, x3, x4, -⟩ := ctl5 (HXC.out w17 HU17b.out).1
    go_wp2_with fail
    refine (bkStaysAvps cl _ _ own1 _ (HV3.out.updD HU17b.out) (by have h := (HXC.out w17 HU17b.out).2.2.2.rd; exact h)).mono ?_
    rintro e w18 ⟨rfl, hu18⟩
    have HU18 := Lib.hid (HU17.out.trans hu18)
    have HU18b := Lib.hid (HU17b.out.trans hu18)
    clear hu18 c0 c1 c2 c3 c4 x0 x1 x2 x3 x4 HU17 HU17b
    have HU9_18 : Hid (Upd [] w9 w18) := HU10.out.trans (HU12.out.trans HU18.out)
    obtain ⟨x0, x1, x2, x3, x4, -⟩ := ctl5 (HPQ.out w18 HU9_18.out).1
    have HBK18 := Lib.hid (HBK.out.upd (HU3.out.trans HU18b.out))
    have HO18 := Lib.hid (HO9.out.updD HU9_18.out)
    have HOM18 := Lib.hid (HOM.out.updD HU18.out)
    have HON18 := Lib.hid (HON.out.updD HU18.out)
    have HSW : Hid (w0.heap.size ≤ wr.heap.size ∧ wr.heap.size ≤ w3.heap.size ∧ w3.heap.size ≤ w9.heap.size ∧ w9.heap.size ≤ w10.heap.size ∧ ∀ y ∈ own6, y < w9.heap.size) := ⟨HUR.out.size, HU3.out.size, HU9.out.size, HU10.out.size, fun y hy => HO9.out.lt y hy⟩
    have HLTA : Hid (∀ d ∈ RA, ∀ y ∈ d.own, y < wr.heap.size) := HBK.out.ltAvps
    have HLTI : Hid (∀ d ∈ RI, ∀ y ∈ d.own, y < wr.heap.size) := HBK.out.ltInts
    clear HXC HPQ HBK HO9 HOM HON HU3 HU9 HU10 HU11 HU12 HU13 HU18 HU18b HU9_18 HUR HV3
    go_wp2_with fail
    refine (HBK18.out.addAvps ⟨.slice a6 pl.length c6, pl, own6⟩ HO18.out (by have := HRL.out; show pl.length ≤ _; omega) (fun y hy => by have h1 := HF6.out y hy; have h2 := HSW.out; omega) (fun d hd y hy hy2 => by have h1 := HLTA.out d hd y hy; have h2 := HF6.out y hy2; have h3 := HSW.out; omega) (by simp) (by simp)).mono ?_
    rintro e w19 ⟨rfl, hb19, ht19⟩
    have HB19 := Lib.hid hb19
    have HOM19 := Lib.hid (HOM18.out.updT ht19 (by decide))
    have HON19 := Lib.hid (HON18.out.updT ht19 (by decide))
    clear hb19 ht19 HBK18 HO18 HOM18 HON18 x0 x1 x2 x3 x4
    go_wp2_with fail
    rw [HML.out.1]
    refine (HB19.out.addAvps ⟨.slice am M.length cm, M, ownM⟩ (by have h := HOM19.out; rw [HML.out.1] at h; rw [HM.out] at h ⊢; exact h) (by have := HLL.out; have := HML.out.2; show M.length ≤ _; omega) (fun y hy => by have h1 := HFM.out y hy; have h2 := HSW.out; omega) (fun d hd y hy hy2 => (mem_add2 hd).elim (fun hd => by have h1 := HLTA.out d hd y hy; have h2 := HFM.out y hy2; have h3 := HSW.out; omega) (fun e => by subst e; have h1 := HSW.out.2.2.2.2 y hy; have h2 := HFM.out y hy2; have h3 := HSW.out; omega)) (by simp) (by simp)).mono ?_
    rintro e w20 ⟨rfl, hb20, ht20⟩
    have HB20 := Lib.hid hb20
    have HON20 := Lib.hid (HON19.out.updT ht20 (by decide))
    clear hb20 ht20 HB19 HOM19 HON19
    go_wp2_with fail
    rw [HNLL.out]
    refine (HB20.out.addInts ⟨.slice an nd.length cn, nd, ownN⟩ (by have h := HON20.out; rw [HNLL.out] at h; show Own _ _ _ _ _ _ _; rw [flat_ints]; exact h) (by have := HNL.out; show nd.length ≤ _; omega) (fun y hy => by have h1 := HFN.out y hy; have h2 := HSW.out; omega) (fun d hd y hy hy2 => by have h1 := HLTI.out d hd y hy; have h2 := HFN.out y hy2; have h3 := HSW.out; omega) (by simp) (by simp)).mono ?_
    rintro e w21 ⟨rfl, hb21, -⟩
    have HB21 := Lib.hid hb21
    clear hb21
    go_wp2_with fail
    go_roundg (2 - (k + 1))
    case rel => exact ⟨k + 1, _, _, by omega, by go_num, HB21.out⟩
    case measure => omega
end Go.Proofs.YtglafpdealjlnaaGreat
