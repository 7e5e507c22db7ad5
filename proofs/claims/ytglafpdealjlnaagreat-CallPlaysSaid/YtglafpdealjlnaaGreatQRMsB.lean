/- WRITTEN by wip/gen/rmsb.py. The walks of the document's own Kind, Make, Check (chapter 19). -/
import Derived.Deep.DeepCutAuto
import Derived.Deep.CutRange
import Derived.Deep.LoopGhost
import Derived.Test.YtglafpdealjlnaaGreatQRefW
import Derived.Test.YtglafpdealjlnaaGreatQMsgA
import Derived.Test.YtglafpdealjlnaaGreatQMsgN
namespace Go.Proofs.YtglafpdealjlnaaGreat
open Go.RowKit
set_option linter.unusedSimpArgs false
set_option linter.unusedVariables false
set_option maxRecDepth 100000

set_option maxHeartbeats 2000000 in
theorem rkind_any (t s ns nr : Int) (v : Value) (l : List Av) (w : World) (hl : AvsAt w v l) (hs : ∀ a ∈ l, a.val.size ≤ maxLen) :
    Calls Tryz.prog 15 #[.agg #[.int .i64 t, .int .i64 s, .int .i64 ns, .int .i64 nr, v]] w fun e w' => e = .returned (.int .i64 (kindOf l)) ∧ Upd [] w w' := by
  cases l with
  | nil =>
    obtain ⟨ao, cap, rfl, h1, h2, -⟩ := hl
    simp only [kindOf, List.length_nil] at h1 ⊢
    go_enter Tryz.func15, Tryz.ntmps15
    go_wp2
    go_ret
    exact ⟨rfl, (Upd.refl _ _).alloc _⟩
  | cons a l =>
    obtain ⟨ao, cap, rfl, h1, h2, h3⟩ := hl
    obtain ⟨q, rfl, d0, d1, d2, d3, d4⟩ := h3 0 a rfl
    simp only [kindOf]
    obtain ⟨mu, hi, ve, k, x⟩ := a
    simp only [Nat.zero_mul] at d0 d1 d2 d3 d4
    obtain ⟨n, hn⟩ : ∃ n, n = (⟨mu, hi, ve, k, x⟩ :: l : List Av).length := ⟨_, rfl⟩
    simp only [← hn] at h1 ⊢
    have hn1 : 1 ≤ n := by simp at hn; omega
    have U1 := (Upd.refl [] w).alloc (.cells #[.int .i64 t, .int .i64 s, .int .i64 ns, .int .i64 nr, .slice (some q) n cap] 24)
    have A1 : AvAt (w.alloc (.cells #[.int .i64 t, .int .i64 s, .int .i64 ns, .int .i64 nr, .slice (some q) n cap] 24)) q ⟨mu, hi, ve, k, x⟩ := AvAt.upd ⟨d0, d1, d2, d3, d4⟩ U1
    simp only [AvAt] at A1
    obtain ⟨e0, e1, e2, e3, e4⟩ := A1
    clear h3 hn d0 d1 d2 d3 d4 U1
    simp only [maxLen] at h2
    have hx : x.size ≤ maxLen := hs _ List.mem_cons_self
    clear hs
    by_cases t1 : ve = 0
    · by_cases t2 : k = 0
      · cases hi
        · by_cases t4 : x.size = 2
          · have H4 := Lib.hid (And.intro hx t4)
            rw [if_neg (by simp [t1, t2, t4])]
            subst t1 t2
            have t4' : (x.size : Int) = 2 := by omega
            clear hx t4
            go_enter Tryz.func15, Tryz.ntmps15
            go_wp2_with fail
            refine (rnum_any x 0 H4.out.1 (by have := H4.out.2; omega) _).mono ?_
            rintro e w1 ⟨rfl, hu1⟩
            go_wp2_with fail
            go_ret
            exact ⟨rfl, ((((Upd.refl _ _).alloc _).alloc _).trans hu1)⟩
          · rw [if_pos (by simp [t4])]
            subst t1 t2
            have t4' : ¬ (x.size : Int) = 2 := by omega
            clear hx t4
            go_enter Tryz.func15, Tryz.ntmps15
            go_wp2_with fail
            go_ret
            exact ⟨rfl, ((Upd.refl _ _).alloc _).alloc _⟩
        · rw [if_pos (by simp)]
          subst t1 t2
          clear hx
          go_enter Tryz.func15, Tryz.ntmps15
          go_wp2_with fail
          go_ret
          exact ⟨rfl, ((Upd.refl _ _).alloc _).alloc _⟩
      · rw [if_pos (by simp [t2])]
        subst t1
        clear hx
        go_enter Tryz.func15, Tryz.ntmps15
        go_wp2_with fail
        go_ret
        exact ⟨rfl, ((Upd.refl _ _).alloc _).alloc _⟩
    · rw [if_pos (by simp [t1])]
      clear hx
      go_enter Tryz.func15, Tryz.ntmps15
      go_wp2_with fail
      go_ret
      exact ⟨rfl, ((Upd.refl _ _).alloc _).alloc _⟩
set_option maxHeartbeats 2000000 in
theorem rmake_any (kind : Int) (hk : -9223372036854775808 ≤ kind ∧ kind ≤ 9223372036854775807) (l : List Av) (v : Value) (w : World) (hl : AvsAt w v l) (hs : l.length < 1000000) :
    Calls Tryz.prog 23 #[.int .i64 kind, v] w fun e w' => ∃ u own, e = .returned u ∧ Own w' 85 5 u (1 + l.length) (avCells (numAv 0 kind 2 :: l)) own ∧ (∀ k, k ∈ own → w.heap.size ≤ k) ∧ Upd [] w w' := by
  have RL := Lib.hid hl.rd
  have hnum := fun W => rnum18_any 0 kind 2 (by omega) hk W
  simp only [Av.agg, numAv] at hnum
  have HNUM := Lib.hid hnum
  have HS := Lib.hid hs
  have HV := Lib.hid hl
  clear hl hs hnum
  obtain ⟨x, hx⟩ : ∃ x, be 2 kind = x := ⟨_, rfl⟩
  have HX := Lib.hid hx
  rw [hx] at HNUM
  clear hx
  obtain ⟨i0, hi, hz0, hz1, hz2⟩ := info_parts info_avp
  clear hk
  go_enter Tryz.func23, Tryz.ntmps23
  go_wp2_with fail
  refine (HNUM.out _).mono ?_
  rintro e w1 ⟨rfl, hu1⟩
  have HU1 := Lib.hid hu1
  clear hu1
  have HO0 : Hid (Own (w1.alloc (.cells #[.bool true, .bool false, .int .i64 0, .int .i64 0, .string x] 85)) 85 5 (.slice (some ⟨w1.heap.size, 0, none⟩) 1 1) 1 [.bool true, .bool false, .int .i64 0, .int .i64 0, .string x] [w1.heap.size]) :=
    Own.rows_new w1 85 (n := 1) (size := 5) (cs := [.bool true, .bool false, .int .i64 0, .int .i64 0, .string x]) rfl (by simp [maxLen])
  have RL1 := Lib.hid (RL.out.upd (HU1.out.alloc (.cells #[.bool true, .bool false, .int .i64 0, .int .i64 0, .string x] 85)))
  go_wp2_with (first
    | (at_builtin; refine wpList_append_Rd _ rfl (.tmp 7) (.tmp 8) 22 rfl 85 i0 _ 5 40 Tryz.underlying22 hi hz0 hz1 hz2 rfl (by decide) _ 1 _ _ (by simp [Act.eval]) HO0.out v l.length (avCells l) (by simp [Act.eval]) RL1.out (by have := HS.out; simp only [maxLen]; omega) (by have := HS.out; omega) ?_; intro ao1 cap1 w5 own1 ho1 hin1 hu5; have HO1 := Lib.hid ho1; have HIN1 := Lib.hid hin1; have HU5 := Lib.hid hu5; clear ho1 hin1 hu5; generalize Value.slice ao1 (1 + l.length) cap1 = v5 at *))
  go_ret
  refine ⟨_, own1, rfl, ?_, fun k hk => ?_, ?_⟩
  · have h := HO1.out
    have e1 : avCells (numAv 0 kind 2 :: l) = [.bool true, .bool false, .int .i64 0, .int .i64 0, .string x] ++ avCells l := by rw [← HX.out]; rfl
    rw [e1]; exact h
  · have h1 := HU1.out.size
    rcases HIN1.out k hk with h | h
    · simp at h; omega
    · simp at h; omega
  · refine (HU1.out.alloc _).trans' HU5.out (fun y hy => .inr ?_)
    have h1 := HU1.out.size
    simp at hy; omega

theorem ints_of_own {w : World} {e : TypeId} {v : Value} {l : List Int} {own : List Nat} (h : Own w e 1 v l.length (l.map (Value.int .i64)) own) : IntsAt w v l := by
  obtain ⟨ao, cap, rfl, h1, h2⟩ := h.shape
  refine ⟨ao, cap, rfl, h1, h2, fun i x hx => ?_⟩
  obtain ⟨g, off, cap', hv, -, -, -, hc⟩ := h.form (by have := (List.getElem?_eq_some_iff.1 hx).1; omega)
  injection hv with h3
  subst h3
  refine ⟨_, rfl, ?_⟩
  rw [add_plain']
  exact hc i _ (by simp [hx])
theorem checkOf_none (x : Av) (r : List Av) (h : needsOf (kindOf (x :: r)) = none) : checkOf (x :: r) = 40 := by
  simp only [checkOf, h]
theorem checkOf_some (x : Av) (r : List Av) (nd : List Int) (h : needsOf (kindOf (x :: r)) = some nd) : checkOf (x :: r) = if badOf r = 0 then needOf (x :: r) nd else badOf r := by
  simp only [checkOf, h]
theorem wrongAv_cases (x : Av) (al : Int) (h : avpLen x.kind = al) :
    (wrongAv x = 40 ∧ x.must = true ∧ ((x.vendor != 0) = true ∨ (x.vendor != 0) = false ∧ (al == -2) = true)) ∨
    (wrongAv x = 0 ∧ x.must = false ∧ ((x.vendor != 0) = true ∨ (x.vendor != 0) = false ∧ (al == -2) = true)) ∨
    (wrongAv x = 4 ∧ (x.vendor != 0) = false ∧ (al == -2) = false ∧ ((0 ≤ al ∧ ((x.val.size : Int) != al) = true) ∨ (0 ≤ al ∧ ((x.val.size : Int) != al) = false ∧ (x.kind == 0) = true) ∨ (¬ 0 ≤ al ∧ (x.kind == 0) = true))) ∨
    (wrongAv x = 0 ∧ (x.vendor != 0) = false ∧ (al == -2) = false ∧ ((0 ≤ al ∧ ((x.val.size : Int) != al) = false ∧ (x.kind == 0) = false) ∨ (¬ 0 ≤ al ∧ (x.kind == 0) = false))) := by
  unfold wrongAv
  rw [h]
  by_cases t1 : x.vendor = 0
  · by_cases t2 : al = -2
    · rw [if_pos (.inr t2)]
      cases hm : x.must
      · exact .inr (.inl ⟨rfl, rfl, .inr ⟨by simpa using t1, by simpa using t2⟩⟩)
      · exact .inl ⟨rfl, rfl, .inr ⟨by simpa using t1, by simpa using t2⟩⟩
    · rw [if_neg (by rintro (h | h); exact h t1; exact t2 h)]
      have u1 : (x.vendor != 0) = false := by simpa using t1
      have u2 : (al == -2) = false := by simpa using t2
      by_cases t3 : 0 ≤ al
      · by_cases t4 : (x.val.size : Int) = al
        · by_cases t5 : x.kind = 0
          · rw [if_pos (.inr t5)]
            exact .inr (.inr (.inl ⟨rfl, u1, u2, .inr (.inl ⟨t3, by simpa using t4, by simpa using t5⟩)⟩))
          · rw [if_neg (by rintro (h | h); exact h.2 t4; exact t5 h)]
            exact .inr (.inr (.inr ⟨rfl, u1, u2, .inl ⟨t3, by simpa using t4, by simpa using t5⟩⟩))
        · rw [if_pos (.inl ⟨t3, t4⟩)]
          exact .inr (.inr (.inl ⟨rfl, u1, u2, .inl ⟨t3, by simpa using t4⟩⟩))
      · by_cases t5 : x.kind = 0
        · rw [if_pos (.inr t5)]
          exact .inr (.inr (.inl ⟨rfl, u1, u2, .inr (.inr ⟨t3, by simpa using t5⟩)⟩))
        · rw [if_neg (by rintro (h | h); exact t3 h.1; exact t5 h)]
          exact .inr (.inr (.inr ⟨rfl, u1, u2, .inr ⟨t3, by simpa using t5⟩⟩))
  · rw [if_pos (.inl t1)]
    have u1 : (x.vendor != 0) = true := by simpa using t1
    cases hm : x.must
    · exact .inr (.inl ⟨rfl, rfl, .inl u1⟩)
    · exact .inl ⟨rfl, rfl, .inl u1⟩

set_option maxHeartbeats 3000000 in
theorem rcheck_any (t s ns nr : Int) (v : Value) (l : List Av) (w : World) (hl : AvsAt w v l) (hs : ∀ a ∈ l, a.val.size ≤ maxLen) :
    Calls Tryz.prog 17 #[.agg #[.int .i64 t, .int .i64 s, .int .i64 ns, .int .i64 nr, v]] w fun e w' => e = .returned (.int .i64 (checkOf l)) ∧ Upd [] w w' := by
  obtain ⟨ao, cap, rfl, h1, h2, -⟩ := id hl
  obtain ⟨R, hR⟩ : ∃ R, checkOf l = R := ⟨_, rfl⟩
  rw [hR]
  have HR := Lib.hid hR
  obtain ⟨n, hn⟩ : ∃ n, n = l.length := ⟨_, rfl⟩
  rw [← hn] at h1 ⊢
  simp only [maxLen] at h2
  obtain ⟨A, hA⟩ : ∃ A, A = Obj.cells #[.int .i64 t, .int .i64 s, .int .i64 ns, .int .i64 nr, .slice ao n cap] 24 := ⟨_, rfl⟩
  have B0 : Blk (w.alloc A) w.heap.size 24 #[.int .i64 t, .int .i64 s, .int .i64 ns, .int .i64 nr, .slice ao n cap] := by rw [hA]; exact Blk.new _ _ _
  have HU := Lib.hid ((Upd.refl [] w).alloc A)
  have HL : Hid (AvsAt (w.alloc A) (.slice ao n cap) l) := by show AvsAt _ _ _; rw [hn]; exact hl.upd HU.out
  have HA := Lib.hid hA
  have HN := Lib.hid hn
  have HS := Lib.hid hs
  obtain ⟨g, hg⟩ : ∃ g, g = w.heap.size := ⟨_, rfl⟩
  rw [← hg] at B0
  have HG := Lib.hid hg
  have hcells : ∀ W, Upd [] (w.alloc A) W → W.cell? ⟨g, 0, none⟩ = some (.int .i64 t) ∧ W.cell? ⟨g, 1, none⟩ = some (.int .i64 s) ∧ W.cell? ⟨g, 2, none⟩ = some (.int .i64 ns) ∧ W.cell? ⟨g, 3, none⟩ = some (.int .i64 nr) ∧ W.cell? ⟨g, 4, none⟩ = some (.slice ao n cap) := fun W hu =>
    ⟨(B0.upd hu (by simp)).cell 0, (B0.upd hu (by simp)).cell 1, (B0.upd hu (by simp)).cell 2, (B0.upd hu (by simp)).cell 3, (B0.upd hu (by simp)).cell 4⟩
  have HC := Lib.hid hcells
  have HK := Lib.hid (rkind_any t s ns nr (.slice ao n cap) l (w.alloc A) HL.out hs)
  obtain ⟨kd, hkd⟩ : ∃ x, kindOf l = x := ⟨_, rfl⟩
  rw [hkd] at HK
  have HKD := Lib.hid hkd
  obtain ⟨c0, c1, c2, c3, c4⟩ := HC.out (w.alloc A) (Upd.refl _ _)
  clear hcells hA hn hs hl B0 hg hkd hR
  go_enter Tryz.func17, Tryz.ntmps17
  go_upto_region 1 with (fail)
  rw [← HA.out]
  try rw [← HG.out]
  clear HA
  generalize w.alloc A = w1 at *
  go_wp2_with fail
  refine HK.out.mono ?_
  rintro e w2 ⟨rfl, hu2⟩
  have HU2 := Lib.hid hu2
  clear hu2
  clear c0 c1 c2 c3 c4 HK
  by_cases t1 : l = []
  · have hk0 := HKD.out
    have hr := HR.out
    have hn0 := HN.out
    subst t1
    obtain rfl : (-2 : Int) = kd := hk0
    obtain rfl : (0 : Int) = R := hr
    clear hn0
    go_wp2_with fail
    go_ret
    exact ⟨rfl, HU.out.trans HU2.out⟩
  obtain ⟨x0, r, hlr⟩ : ∃ x r, l = x :: r := by
    cases l with
    | nil => exact absurd rfl t1
    | cons x r => exact ⟨x, r, rfl⟩
  have HLR := Lib.hid hlr
  have hk1 : kd ≠ -2 := by
    rw [← HKD.out, hlr, kindOf]
    split
    · decide
    · have := (num_bd x0.val 0 2).1
      omega
  have HRN : Hid (needsOf kd = none → R = 40) := fun h => by
    rw [← HR.out, hlr]
    refine checkOf_none _ _ ?_
    rw [← hlr, HKD.out]
    exact h
  have HRS : Hid (∀ nd, needsOf kd = some nd → (if badOf r = 0 then needOf l nd else badOf r) = R) := fun nd h => by
    rw [← HR.out, hlr]
    refine (checkOf_some _ _ nd ?_).symm
    rw [← hlr, HKD.out]
    exact h
  have hk1' : (kd == -2) = false := by simpa using hk1
  clear HR hk1 hlr t1
  cases hnd : needsOf kd with
  | none =>
    obtain rfl : R = 40 := HRN.out hnd
    have key : kd < 1 ∨ (¬ kd < 1 ∧ 16 < kd) ∨ (¬ kd < 1 ∧ ¬ 16 < kd ∧ (kd == 5) = true) ∨ (¬ kd < 1 ∧ ¬ 16 < kd ∧ (kd == 5) = false ∧ (kd == 13) = true) := by
      by_cases j1 : kd < 1
      · exact .inl j1
      by_cases j2 : 16 < kd
      · exact .inr (.inl ⟨j1, j2⟩)
      have j3 : kd = 5 ∨ kd = 13 := by
        have : kd = 1 ∨ kd = 2 ∨ kd = 3 ∨ kd = 4 ∨ kd = 5 ∨ kd = 6 ∨ kd = 7 ∨ kd = 8 ∨ kd = 9 ∨ kd = 10 ∨ kd = 11 ∨ kd = 12 ∨ kd = 13 ∨ kd = 14 ∨ kd = 15 ∨ kd = 16 := by omega
        rcases this with rfl | rfl | rfl | rfl | rfl | rfl | rfl | rfl | rfl | rfl | rfl | rfl | rfl | rfl | rfl | rfl <;> first | (exact .inl rfl) | (exact .inr rfl) | (simp [needsOf] at hnd)
      rcases j3 with rfl | rfl
      · exact .inr (.inr (.inl ⟨j1, j2, rfl⟩))
      · exact .inr (.inr (.inr ⟨j1, j2, rfl, rfl⟩))
    clear hnd HRN HRS
    rcases key with k1 | ⟨k1, k2⟩ | ⟨k1, k2, k3⟩ | ⟨k1, k2, k3, k4⟩
    all_goals
      go_wp2_with fail
      go_ret
      exact ⟨rfl, HU.out.trans HU2.out⟩
  | some nd =>
  have HR2 : Hid ((if badOf r = 0 then needOf l nd else badOf r) = R) := HRS.out nd hnd
  have key : ¬ kd < 1 ∧ ¬ 16 < kd ∧ (kd == 5) = false ∧ (kd == 13) = false := by
    have : kd ≠ 5 ∧ kd ≠ 13 ∧ 1 ≤ kd ∧ kd ≤ 16 := by
      refine ⟨?_, ?_, ?_, ?_⟩
      · rintro rfl; simp [needsOf] at hnd
      · rintro rfl; simp [needsOf] at hnd
      · refine Classical.not_not.1 fun h => ?_
        rw [needsOf, if_neg (by omega), if_neg (by omega), if_neg (by omega), if_neg (by omega), if_neg (by omega), if_neg (by omega), if_neg (by omega), if_neg (by omega), if_neg (by omega)] at hnd
        cases hnd
      · refine Classical.not_not.1 fun h => ?_
        rw [needsOf, if_neg (by omega), if_neg (by omega), if_neg (by omega), if_neg (by omega), if_neg (by omega), if_neg (by omega), if_neg (by omega), if_neg (by omega), if_neg (by omega)] at hnd
        cases hnd
    refine ⟨by omega, by omega, by simpa using this.1, by simpa using this.2.1⟩
  obtain ⟨k1, k2, k3, k4⟩ := key
  have HND := Lib.hid hnd
  have HNE := Lib.hid (rneeds_any kd)
  rw [hnd] at HNE
  have hn1 : 1 ≤ n := by rw [HN.out, HLR.out]; simp
  clear HRN HRS hnd
  go_upto_region 6 with (fail)
  generalize hw2 : w2 = w3 at *
  clear hw2
  have HU3 := Lib.hid (HU.out.trans HU2.out)
  have HC3 : Hid (∀ W, Upd [] w3 W → W.cell? ⟨g, 0, none⟩ = some (.int .i64 t) ∧ W.cell? ⟨g, 1, none⟩ = some (.int .i64 s) ∧ W.cell? ⟨g, 2, none⟩ = some (.int .i64 ns) ∧ W.cell? ⟨g, 3, none⟩ = some (.int .i64 nr) ∧ W.cell? ⟨g, 4, none⟩ = some (.slice ao n cap)) := fun W hu => HC.out W (HU2.out.trans hu)
  have HL3 := Lib.hid (HL.out.upd HU2.out)
  clear HU HC HL HU2
  go_wp2_with fail
  go_loopg [4] (n - 1) (fun m s4 wr => ∃ k : Nat, k + m = n ∧ s4 = .int .i64 k ∧ badOf r = badOf (l.drop k) ∧ Upd [] w3 wr)
  case atStart => exact ⟨1, by omega, rfl, by rw [HLR.out]; rfl, Upd.refl _ _⟩
  case round =>
    obtain ⟨k, hk, rfl, hb, hu⟩ := hrel
    have HUR := Lib.hid hu
    obtain ⟨c0, c1, c2, c3, c4⟩ := HC3.out wr hu
    clear hu
    by_cases tk : k < n
    · obtain ⟨x, hx⟩ : ∃ x, l[k]? = some x := by
        have := HN.out
        exact ⟨_, List.getElem?_eq_getElem (by omega)⟩
      have hd : l.drop k = x :: l.drop (k + 1) := by
        obtain ⟨h5, h6⟩ := List.getElem?_eq_some_iff.1 hx
        rw [List.drop_eq_getElem_cons h5, h6]
      rw [hd, badOf] at hb
      obtain ⟨al, hal⟩ : ∃ y, avpLen x.kind = y := ⟨_, rfl⟩
      have hwc := wrongAv_cases x al hal
      have HWC := Lib.hid hwc
      have HLEN := Lib.hid (rlen18_any x.kind)
      rw [hal] at HLEN
      have HB := Lib.hid hb
      have hxz := HS.out x (List.mem_of_getElem? hx)
      simp only [maxLen] at hxz
      obtain ⟨ao', cap', e0, _, _, h3⟩ := HL3.out.upd HUR.out
      injection e0 with e0 en e2
      subst e0 e2
      clear en
      obtain ⟨q, rfl, d0, d1, d2, d3, d4⟩ := h3 k x hx
      clear h3 hd hx hal hwc hb
      obtain ⟨xm, xh, xv, xk, xs⟩ := x
      dsimp only at d0 d1 d2 d3 d4 HWC HLEN hxz
      have tk' : (k : Int) < n := by omega
      have BX := Blk.new wr 85 #[.bool xm, .bool xh, .int .i64 xv, .int .i64 xk, .string xs]
      have HU5 : Hid (Upd [] wr (wr.alloc (Obj.cells #[.bool xm, .bool xh, .int .i64 xv, .int .i64 xk, .string xs] 85))) := (Upd.refl _ _).alloc _
      go_upto_region 10 with (fail)
      generalize hw5 : wr.alloc (Obj.cells #[.bool xm, .bool xh, .int .i64 xv, .int .i64 xk, .string xs] 85) = w5 at *
      have e0 := BX.cell 0
      have e1 := BX.cell 1
      have e2 := BX.cell 2
      have e3 := BX.cell 3
      have e4 := BX.cell 4
      simp only [List.size_toArray, List.length_cons, List.length_nil, List.getElem?_toArray, List.getElem?_cons_zero, List.getElem?_cons_succ] at e0 e1 e2 e3 e4
      clear hw5 c0 c1 c2 c3 c4 d0 d1 d2 d3 d4
      go_wp2_with fail
      refine (HLEN.out _).mono ?_
      rintro e w6 ⟨rfl, hu6⟩
      have HU6 := Lib.hid hu6
      clear hu6
      have BX6 := BX.upd HU6.out (by simp)
      have f0 := BX6.cell 0
      have f1 := BX6.cell 1
      have f2 := BX6.cell 2
      have f3 := BX6.cell 3
      have f4 := BX6.cell 4
      simp only [List.size_toArray, List.length_cons, List.length_nil, List.getElem?_toArray, List.getElem?_cons_zero, List.getElem?_cons_succ] at f0 f1 f2 f3 f4
      clear e0 e1 e2 e3 e4 BX BX6 HLEN
      have HU7 := Lib.hid (HUR.out.trans (HU5.out.trans HU6.out))
      clear HU5 HU6 HUR
      rcases HWC.out with ⟨q1, rfl, q2⟩ | ⟨q1, rfl, q2⟩ | ⟨q1, q2, q3, q4⟩ | ⟨q1, q2, q3, q4⟩
      · have hr := HR2.out
        have hb := HB.out
        rw [q1, if_neg (by decide)] at hb
        rw [hb, if_neg (by decide)] at hr
        subst hr
        clear HR2 HB HWC q1 hb
        rcases q2 with q2 | ⟨q2, q3⟩
        all_goals
          go_wp2_with fail
          go_ret
          exact ⟨rfl, HU3.out.trans HU7.out⟩
      · have hb := HB.out
        rw [q1, if_pos rfl] at hb
        have HB2 := Lib.hid hb
        clear HB HWC q1 hb
        rcases q2 with q2 | ⟨q2, q3⟩
        all_goals
          go_wp2_with fail
          go_roundg (n - (k + 1))
          case rel => exact ⟨k + 1, by omega, by go_num, HB2.out, HU7.out⟩
          case measure => omega
      · have hr := HR2.out
        have hb := HB.out
        rw [q1, if_neg (by decide)] at hb
        rw [hb, if_neg (by decide)] at hr
        subst hr
        clear HR2 HB HWC q1 hb
        rcases q4 with ⟨q4, q5⟩ | ⟨q4, q5, q6⟩ | ⟨q4, q5⟩
        all_goals
          go_wp2_with fail
          go_ret
          exact ⟨rfl, HU3.out.trans HU7.out⟩
      · have hb := HB.out
        rw [q1, if_pos rfl] at hb
        have HB2 := Lib.hid hb
        clear HB HWC q1 hb
        rcases q4 with ⟨q4, q5, q6⟩ | ⟨q4, q5⟩
        all_goals
          go_wp2_with fail
          go_roundg (n - (k + 1))
          case rel => exact ⟨k + 1, by omega, by go_num, HB2.out, HU7.out⟩
          case measure => omega
    · obtain rfl : k = n := by omega
      have hdn : l.drop k = [] := by rw [HN.out]; simp
      rw [hdn, badOf] at hb
      have HR3 : Hid (needOf l nd = R) := by
        have hr := HR2.out
        rw [hb, if_pos rfl] at hr
        exact hr
      have tk' : ¬ (k : Int) < k := by omega
      clear hdn hb HR2
      obtain ⟨m, hm⟩ : ∃ m, m = nd.length := ⟨_, rfl⟩
      have hU9 := Lib.hid (HU3.out.trans HUR.out)
      go_wp2_with fail
      refine (HNE.out _).mono ?_
      rintro e w8 ⟨⟨v8, own8, rfl, ho8, -, hu8⟩⟩
      obtain ⟨bo, cb, rfl, z1, z2⟩ := ho8.shape
      have HI8 := Lib.hid (ints_of_own ho8)
      have HU8 := Lib.hid (hU9.out.trans hu8)
      have HL8 := Lib.hid (HL3.out.upd (HUR.out.trans hu8))
      have HC8 : Hid (∀ W, Upd [] w8 W → W.cell? ⟨g, 4, none⟩ = some (.slice ao k cap)) := fun W hu => (HC3.out W ((HUR.out.trans hu8).trans hu)).2.2.2.2
      simp only [Option.getD_some] at HI8 z1
      simp only [Option.getD_some]
      rw [← hm] at HI8 z1 ⊢
      simp only [maxLen] at z2
      have HM := Lib.hid hm
      clear ho8 hu8 HUR HC3 hm HNE hU9 HL3 c0 c1 c2 c3 c4
      go_wp2_with fail
      go_loopg [8] m (fun p s8 wx => ∃ j : Nat, j + p = m ∧ s8 = .int .i64 j ∧ needOf l nd = needOf l (nd.drop j) ∧ Upd [] w8 wx)
      case atStart => exact ⟨0, by omega, rfl, rfl, Upd.refl _ _⟩
      case round =>
        obtain ⟨j, hj, rfl, hnd, hu⟩ := hrel
        have HUX := Lib.hid hu
        by_cases tj : j < m
        · obtain ⟨y, hy⟩ : ∃ y, nd[j]? = some y := by
            have := HM.out
            exact ⟨_, List.getElem?_eq_getElem (by omega)⟩
          have hd : nd.drop j = y :: nd.drop (j + 1) := by
            obtain ⟨h5, h6⟩ := List.getElem?_eq_some_iff.1 hy
            rw [List.drop_eq_getElem_cons h5, h6]
          rw [hd, needOf] at hnd
          obtain ⟨bo', cb', e0, _, _, h3⟩ := HI8.out.upd hu
          injection e0 with e0 en e2
          subst e0 e2
          clear en
          obtain ⟨q, rfl, d0⟩ := h3 j y hy
          obtain ⟨f0, f1, hf⟩ : ∃ a b, findAv y l = (a, b) := ⟨_, _, rfl⟩
          rw [hf] at hnd
          dsimp only at hnd
          have HFD := Lib.hid (fun W hW => rfind18_any l (.slice ao k cap) y W (HL8.out.upd (HUX.out.trans hW)))
          rw [hf] at HFD
          have HND2 := Lib.hid hnd
          have hc0 := HC8.out
          have hcx : ∀ W, Upd [] wr W → W.cell? ⟨g, 4, none⟩ = some (.slice ao k cap) := fun W hW => HC8.out W (HUX.out.trans hW)
          have hdx : ∀ W, Upd [] wr W → W.cell? (q.add j) = some (.int .i64 y) := fun W hW => (hW.cell (cell_lt' d0) (by simp)).trans d0
          clear h3 hd hy hf hnd hu d0 hc0
          have tj' : (j : Int) < m := by omega
          go_wp2_with fail
          refine wp_region_facts (.pure) (trivial) [.is (.pointer (some ⟨g, 4, none⟩)), .is (.slice ao k cap), .is (.slice (some q) m cb), .is (.int .i64 j), .is (.pointer (some (q.add j))), .is (.int .i64 y), .is (.tuple #[.string f0, .bool f1]), .is (.tuple #[.string f0, .bool f1]), .is (.string f0), .is (.bool f1), .is (.string f0), .is (.bool f1)] (by kernel_rfl) (by kernel_rfl) (by kernel_rfl) (by kernel_rfl) ?_ ?_
          · refine Steps.cons ?_ (Steps.cons ?_ (Steps.cons ?_ (Steps.cons ?_ (Steps.cons ?_ (Steps.cons ?_ (Steps.cons ?_ (Steps.cons ?_ (Steps.cons ?_ (Steps.cons ?_ (Steps.cons ?_ (Steps.cons ?_ Steps.nil)))))))))))
            · refine step_is _ rfl ⟨_, rfl⟩ rfl (fun _ _ => trivial) ?_
              intro a W hi hF hD
              have hu := hi.upd
              have e1 : a.tmps[1]?.getD undef = _ := (ev a 1).symm.trans (hF 1 (by kernel_rfl))
              clear hF hD
              have hc := hcx W hu
              have hd := hdx W hu
              go_simp
            · refine step_is _ rfl ⟨_, rfl⟩ rfl (fun _ _ => trivial) ?_
              intro a W hi hF hD
              have hu := hi.upd
              have e78 : a.tmps[78]?.getD undef = .pointer (some ⟨g, 4, none⟩) := (ev a 78).symm.trans (hD _ (Array.mem_of_getElem? (i := 0) rfl) rfl).1
              clear hF hD
              have hc := hcx W hu
              have hd := hdx W hu
              go_simp
            · refine step_is _ rfl ⟨_, rfl⟩ rfl (fun _ _ => trivial) ?_
              intro a W hi hF hD
              have hu := hi.upd
              have e7 : a.tmps[7]?.getD undef = _ := (ev a 7).symm.trans (hF 7 (by kernel_rfl))
              clear hF hD
              have hc := hcx W hu
              have hd := hdx W hu
              go_simp
            · refine step_is _ rfl ⟨_, rfl⟩ rfl (fun _ _ => trivial) ?_
              intro a W hi hF hD
              have hu := hi.upd
              have e8 : a.tmps[8]?.getD undef = _ := (ev a 8).symm.trans (hF 8 (by kernel_rfl))
              clear hF hD
              have hc := hcx W hu
              have hd := hdx W hu
              go_simp
            · refine step_is _ rfl ⟨_, rfl⟩ rfl (fun _ _ => trivial) ?_
              intro a W hi hF hD
              have hu := hi.upd
              have e80 : a.tmps[80]?.getD undef = .slice (some q) m cb := (ev a 80).symm.trans (hD _ (Array.mem_of_getElem? (i := 0) rfl) rfl).1
              have e81 : a.tmps[81]?.getD undef = .int .i64 j := (ev a 81).symm.trans (hD _ (Array.mem_of_getElem? (i := 1) rfl) rfl).1
              clear hF hD
              have hc := hcx W hu
              have hd := hdx W hu
              go_simp
            · refine step_is _ rfl ⟨_, rfl⟩ rfl (fun _ _ => trivial) ?_
              intro a W hi hF hD
              have hu := hi.upd
              have e82 : a.tmps[82]?.getD undef = .pointer (some (q.add j)) := (ev a 82).symm.trans (hD _ (Array.mem_of_getElem? (i := 0) rfl) rfl).1
              clear hF hD
              have hc := hcx W hu
              have hd := hdx W hu
              go_simp
            · refine step_call rfl (fun _ _ => trivial) ?_
              intro a W hi hF hD
              have hu := hi.upd
              have e79 : a.tmps[79]?.getD undef = .slice ao k cap := (ev a 79).symm.trans (hD _ (Array.mem_of_getElem? (i := 0) rfl) rfl).1
              have e83 : a.tmps[83]?.getD undef = .int .i64 y := (ev a 83).symm.trans (hD _ (Array.mem_of_getElem? (i := 1) rfl) rfl).1
              clear hF hD
              have hc := hcx W hu
              have hd := hdx W hu
              refine ⟨_, _, by (go_simp; first | done | rfl | exact ⟨rfl, rfl⟩), ?_⟩
              refine (HFD.out W hu).mono ?_
              rintro e w2 ⟨rfl, hu2⟩
              first | exact ⟨_, rfl, hu2, rfl⟩ | (cases hu2; exact ⟨_, rfl, Upd.refl _ _, rfl⟩)
            · refine step_is _ rfl ⟨_, rfl⟩ rfl (fun _ _ => trivial) ?_
              intro a W hi hF hD
              have hu := hi.upd
              have e84 : a.tmps[84]?.getD undef = .tuple #[.string f0, .bool f1] := (ev a 84).symm.trans (hD _ (Array.mem_of_getElem? (i := 0) rfl) rfl).1
              clear hF hD
              have hc := hcx W hu
              have hd := hdx W hu
              go_simp
            · refine step_is _ rfl ⟨_, rfl⟩ rfl (fun _ _ => trivial) ?_
              intro a W hi hF hD
              have hu := hi.upd
              have e77 : a.tmps[77]?.getD undef = .tuple #[.string f0, .bool f1] := (ev a 77).symm.trans (hD _ (Array.mem_of_getElem? (i := 0) rfl) rfl).1
              clear hF hD
              have hc := hcx W hu
              have hd := hdx W hu
              go_simp
            · refine step_is _ rfl ⟨_, rfl⟩ rfl (fun _ _ => trivial) ?_
              intro a W hi hF hD
              have hu := hi.upd
              have e77 : a.tmps[77]?.getD undef = .tuple #[.string f0, .bool f1] := (ev a 77).symm.trans (hD _ (Array.mem_of_getElem? (i := 0) rfl) rfl).1
              clear hF hD
              have hc := hcx W hu
              have hd := hdx W hu
              go_simp
            · refine step_is _ rfl ⟨_, rfl⟩ rfl (fun _ _ => trivial) ?_
              intro a W hi hF hD
              have hu := hi.upd
              have e85 : a.tmps[85]?.getD undef = .string f0 := (ev a 85).symm.trans (hD _ (Array.mem_of_getElem? (i := 0) rfl) rfl).1
              clear hF hD
              have hc := hcx W hu
              have hd := hdx W hu
              go_simp
            · refine step_is _ rfl ⟨_, rfl⟩ rfl (fun _ _ => trivial) ?_
              intro a W hi hF hD
              have hu := hi.upd
              have e86 : a.tmps[86]?.getD undef = .bool f1 := (ev a 86).symm.trans (hD _ (Array.mem_of_getElem? (i := 0) rfl) rfl).1
              clear hF hD
              have hc := hcx W hu
              have hd := hdx W hu
              go_simp
          intro vals W hu hv
          have v0 : vals 0 = .pointer (some ⟨g, 4, none⟩) := (hv 0 (by decide)).1
          have v1 : vals 1 = .slice ao k cap := (hv 1 (by decide)).1
          have v2 : vals 2 = .slice (some q) m cb := (hv 2 (by decide)).1
          have v3 : vals 3 = .int .i64 j := (hv 3 (by decide)).1
          have v4 : vals 4 = .pointer (some (q.add j)) := (hv 4 (by decide)).1
          have v5 : vals 5 = .int .i64 y := (hv 5 (by decide)).1
          have v6 : vals 6 = .tuple #[.string f0, .bool f1] := (hv 6 (by decide)).1
          have v7 : vals 7 = .tuple #[.string f0, .bool f1] := (hv 7 (by decide)).1
          have v8 : vals 8 = .string f0 := (hv 8 (by decide)).1
          have v9 : vals 9 = .bool f1 := (hv 9 (by decide)).1
          have v10 : vals 10 = .string f0 := (hv 10 (by decide)).1
          have v11 : vals 11 = .bool f1 := (hv 11 (by decide)).1
          clear hv
          simp only [putAll, Act.put, Nat.zero_add, Nat.reduceAdd, v0, v1, v2, v3, v4, v5, v6, v7, v8, v9, v10, v11, List.setIfInBounds_toArray, List.set_cons_zero, List.set_cons_succ]
          clear v0 v1 v2 v3 v4 v5 v6 v7 v8 v9 v10 v11
          have HUY := Lib.hid (HUX.out.trans hu)
          clear hu hcx hdx
          cases f1
          · have hr := HR3.out
            have hn2 := HND2.out
            rw [if_neg (by simp)] at hn2
            rw [hn2] at hr
            subst hr
            clear hn2 HND2 HR3
            go_wp2_with fail
            go_ret
            exact ⟨rfl, HU8.out.trans HUY.out⟩
          · have hn2 := HND2.out
            rw [if_pos rfl] at hn2
            have HN3 := Lib.hid hn2
            clear hn2 HND2
            go_wp2_with fail
            go_roundg (m - (j + 1))
            case rel => exact ⟨j + 1, by omega, by go_num, HN3.out, HUY.out⟩
            case measure => omega
        · obtain rfl : j = m := by omega
          have hdn : nd.drop j = [] := by rw [HM.out]; simp
          rw [hdn, needOf] at hnd
          have hr := HR3.out
          rw [hnd] at hr
          subst hr
          have tj' : ¬ (j : Int) < j := by omega
          clear hnd hdn HR3
          go_wp2_with fail
          go_ret
          exact ⟨rfl, HU8.out.trans HUX.out⟩
end Go.Proofs.YtglafpdealjlnaaGreat
