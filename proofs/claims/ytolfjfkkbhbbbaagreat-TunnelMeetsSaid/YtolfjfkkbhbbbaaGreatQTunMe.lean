/- The walk of chapter 21's alike, TunnelMeets. -/
import Derived.Test.YtolfjfkkbhbbbaaGreatQTunLA
import Derived.Test.YtolfjfkkbhbbbaaGreatQEqMd
namespace Go.Proofs.YtolfjfkkbhbbbaaGreat
open Go.RowKit
set_option linter.unusedSimpArgs false
set_option linter.unusedVariables false
set_option maxRecDepth 100000

set_option maxHeartbeats 2000000 in
theorem alike_true (s t : ByteArray) (hs : s.size ≤ 60) (ht : t.size ≤ 60) (h : chapS 2 t ((endA s).open1.tape.str 16) = chapS 2 s ((endA s).open1.tape.str 16)) (w : World) :
    Calls Tryz.prog 16 #[.string s, .string t] w (AliveEnd w) := by
  have HC : Hid (∀ W, Calls Tryz.prog 42 #[.int .i64 2, .string s, .string ((endA s).open1.tape.str 16)] W fun e w' => e = .returned (.string (chapS 2 s ((endA s).open1.tape.str 16))) ∧ Upd [] W w') :=
    fun W => chap_any 2 s _ (by omega) (by omega) (by rw [Tp.str_size]; omega) W
  have HD : Hid (∀ W, Calls Tryz.prog 42 #[.int .i64 2, .string t, .string ((endA s).open1.tape.str 16)] W fun e w' => e = .returned (.string (chapS 2 s ((endA s).open1.tape.str 16))) ∧ Upd [] W w') := by
    intro W
    have k := chap_any 2 t ((endA s).open1.tape.str 16) (by omega) (by omega) (by rw [Tp.str_size]; omega) W
    rw [h] at k
    exact k
  have HE : Hid ((endA s).open1.tape.str 16 = Tp.str 16 (Tp.after 8 ⟨[1, 2, 3], 0⟩)) := rfl
  rw [HE.out] at HC HD
  clear h hs ht
  have HA8 : Hid ((Tp.after 8 ⟨[1, 2, 3], 0⟩).asks ≤ 900000) := by show _ ≤ _; have := (Tp.after_asks 8 ⟨[1, 2, 3], 0⟩).2; dsimp only at this; omega
  clear HE
  go_enter Tryz.func16, Tryz.ntmps16
  go_wp2_with fail
  have hi := IntsAt.of_blk (l := [1, 2, 3]) (Blk.new w 3 #[.int .i64 1, .int .i64 2, .int .i64 3]) (by simp [maxLen])
  refine (tapeNew_any [1, 2, 3] _ _ hi (by simp) (by intro x hx; simp at hx; omega)).mono ?_
  rintro e w2 ⟨⟨ba, oa, rfl, ha, hna⟩, u2⟩
  have U2 := Lib.hid (((Upd.refl [] w).alloc (Obj.cells #[.int .i64 1, .int .i64 2, .int .i64 3] 3)).trans u2)
  have HA := Lib.hid ha
  have HNA : Hid (∀ k ∈ oa, w.heap.size ≤ k) := fun k hk => by have := hna k hk; simp at this; omega
  clear hi ha hna u2
  go_wp2_with fail
  have hi := IntsAt.of_blk (l := [4, 5]) (Blk.new w2 3 #[.int .i64 4, .int .i64 5]) (by simp [maxLen])
  refine (tapeNew_any [4, 5] _ _ hi (by simp) (by intro x hx; simp at hx; omega)).mono ?_
  rintro e w3 ⟨⟨bb, ob, rfl, hb, hnb⟩, u3⟩
  have V3 := Lib.hid (((Upd.refl [] w2).alloc (Obj.cells #[.int .i64 4, .int .i64 5] 3)).trans u3)
  have HB := Lib.hid hb
  have HNB : Hid (∀ k ∈ ob, w2.heap.size ≤ k) := fun k hk => by have := hnb k hk; simp at this; omega
  clear hi hb hnb u3
  go_wp2_with fail
  refine (bytes_any 8 (by omega) (HA.out.keep V3.out) (by dsimp only; omega)).mono ?_
  rintro e w4 ⟨rfl, h4, u4⟩
  have HA4 := Lib.hid h4
  have U4 := Lib.hid (((U2.out.trans V3.out).trans' u4 (fun x hx => .inr (HNA.out x hx)) : Upd [] w w4))
  have HB4 : Hid (TpAt w4 bb ⟨[4, 5], 0⟩ ob) := HB.out.upd u4 (fun k hk hk2 => by have := HNB.out k hk; have := HA.out.lt k hk2; omega)
  clear h4 u4
  go_wp2_with fail
  refine (bytes_any 16 (by omega) HA4.out HA8.out).mono ?_
  rintro e w5 ⟨rfl, h5, u5⟩
  have U5 := Lib.hid (U4.out.trans' u5 (fun x hx => .inr (HNA.out x hx)))
  have HB5 : Hid (TpAt w5 bb ⟨[4, 5], 0⟩ ob) := HB4.out.upd u5 (fun k hk hk2 => by have := HNB.out k hk; have := HA.out.lt k hk2; omega)
  clear h5 u5 HA4 HA8
  generalize Tp.str 16 (Tp.after 8 ⟨[1, 2, 3], 0⟩) = ca at *
  generalize chapS 2 s ca = y at *
  go_wp2_with fail
  refine (bytes_any 16 (by omega) HB5.out (by dsimp only; omega)).mono ?_
  rintro e w6 ⟨rfl, h6, u6⟩
  have U6 := Lib.hid (U5.out.trans' u6 (fun x hx => .inr (Nat.le_trans U2.out.size (HNB.out x hx))))
  clear h6 u6
  generalize Tp.str 16 ⟨[4, 5], 0⟩ = cb at *
  go_wp2_with fail
  refine (HC.out _).mono ?_
  rintro e w7 ⟨rfl, u7⟩
  have U7 := Lib.hid (U6.out.trans u7)
  clear u7
  go_wp2_with fail
  refine (HD.out _).mono ?_
  rintro e w8 ⟨rfl, u8⟩
  have U8 := Lib.hid (U7.out.trans u8)
  clear u8
  go_wp2_with fail
  go_ret
  exact ⟨rfl, U8.out⟩
/-- The opener lives only if both know one secret, or their first proofs are the same. -/
theorem know_alike {s t : ByteArray} (hk : Know (endA s) (endB t)) (hne : s ≠ t) : chapS 2 t ((endA s).open1.tape.str 16) = chapS 2 s ((endA s).open1.tape.str 16) := by
  obtain ⟨h1, h2, -⟩ := hk
  refine h2 (fun h0 => hne ?_)
  have hs : s.size = 0 := h0
  have ht : t.size = 0 := h1.1 h0
  have e : ∀ x : ByteArray, x.size = 0 → x = ByteArray.empty := fun x hx => by
    apply ByteArray.ext
    exact Array.eq_empty_of_size_eq_zero hx
  rw [e s hs, e t ht]
theorem str_ne {s t : ByteArray} (h : s ≠ t) : (s.toList == t.toList) = false := by
  rw [beq_eq_false_iff_ne]
  intro h2
  exact h (str_inj'.1 h2)

set_option maxHeartbeats 400000 in
theorem tunnelMeets_any (s t : ByteArray) (w : World) : Calls Tryz.prog 3 #[.string s, .string t] w (AliveEnd w) := by
  have HAL := Lib.hid alive21_any
  by_cases hs : s.size ≤ 60
  case neg =>
    go_enter Tryz.func3, Tryz.ntmps3
    go_wp2_with fail
    refine (HAL.out _).mono ?_
    rintro e w1 ⟨rfl, u1⟩
    go_wp2_with fail
    go_ret
    exact ⟨rfl, u1⟩
  by_cases ht : t.size ≤ 60
  case neg =>
    go_enter Tryz.func3, Tryz.ntmps3
    go_wp2_with fail
    refine (HAL.out _).mono ?_
    rintro e w1 ⟨rfl, u1⟩
    go_wp2_with fail
    go_ret
    exact ⟨rfl, u1⟩
  have HP := Lib.hid ((pair_any s t hs ht w).mono fun e w' k => k.ex)
  have HO : Hid ((endA s).open_ = (openC (endA s), 0)) := open_endA _
  have HG := Lib.hid (endA_good s hs)
  have HME : Hid (∀ W pa pb, Two w W pa pb (openC (endA s)) (endB t) → Calls Tryz.prog 13 #[.pointer (some ⟨pa, 0, none⟩), .pointer (some ⟨pb, 0, none⟩), .int .i64 4] W (MetEnd w pa pb (meetN 4 (openC (endA s), endB t)) 20000)) :=
    fun W pa pb h => pair_meet s t hs ht h 4 (by omega)
  have HF : Hid (((meetN 4 (openC (endA s), endB t)).1.state = 3 ∧ (meetN 4 (openC (endA s), endB t)).2.state = 3 ∧ Know (endA s) (endB t)) ∨ ((meetN 4 (openC (endA s), endB t)).1.state = 4 ∧ (meetN 4 (openC (endA s), endB t)).2.state = 4 ∧ ¬ Know (endA s) (endB t))) := by
    by_cases hk : Know (endA s) (endB t)
    · have h := meet_know (startA s) (startB t) rfl hk 2
      rw [h]
      exact .inl ⟨rfl, rfl, hk⟩
    · have h := meet_not (startA s) (startB t) rfl hk 2
      exact .inr ⟨h.1, h.2, hk⟩
  have HKA : Hid (Know (endA s) (endB t) → s ≠ t → ∀ W, Calls Tryz.prog 16 #[.string s, .string t] W (AliveEnd W)) := fun hk hne W => alike_true s t hs ht (know_alike hk hne) W
  have HKS : Hid (s = t → Know (endA s) (endB t)) := fun h => know_same h
  have HMS : Hid (∀ W, Calls Tryz.prog 15 #[.string (⟨#[2]⟩ ++ s)] W fun e w' => e = .returned (.agg (md5Row (⟨#[2]⟩ ++ s))) ∧ Upd [] W w') := fun W => md5_any _ (by rw [ByteArray.size_append, show ByteArray.size ⟨#[2]⟩ = 1 from rfl]; omega) W
  have HMT : Hid (∀ W, Calls Tryz.prog 15 #[.string (⟨#[2]⟩ ++ t)] W fun e w' => e = .returned (.agg (md5Row (⟨#[2]⟩ ++ t))) ∧ Upd [] W w') := fun W => md5_any _ (by rw [ByteArray.size_append, show ByteArray.size ⟨#[2]⟩ = 1 from rfl]; omega) W
  have HEQ : Hid (∀ W, ∃ r : Bool, (Op.equalIn 10000 30 (.agg (md5Row (⟨#[2]⟩ ++ s))) (.agg (md5Row (⟨#[2]⟩ ++ t)))).run Tryz.prog W = .ok r W) := fun W => eq_md5 _ _ W
  generalize md5Row (⟨#[2]⟩ ++ s) = ms at *
  generalize md5Row (⟨#[2]⟩ ++ t) = mt at *
  generalize meetN 4 (openC (endA s), endB t) = q at *
  obtain ⟨A5, B5⟩ := q
  dsimp only at HF
  generalize Know (endA s) (endB t) = K at *
  generalize openC (endA s) = A1 at *
  generalize endA s = A0 at *
  generalize endB t = B0 at *
  go_enter Tryz.func3, Tryz.ntmps3
  go_wp2_with fail
  refine HP.out.mono ?_
  rintro e w1 ⟨pa, pb, rfl, h1⟩
  have H1 := Lib.hid h1
  clear h1
  go_wp2_with fail
  refine (H1.out.openA HG.out).mono ?_
  rintro e w2 ⟨rfl, h2⟩
  rw [HO.out] at h2
  simp only [HO.out]
  have H2 := Lib.hid h2
  clear h2
  go_wp2_with fail
  refine (HME.out _ _ _ H2.out).mono ?_
  rintro e w3 ⟨rfl, h3⟩
  have H3 := Lib.hid h3.two
  clear h3 HME HG HO HP
  go_wp2_with fail
  refine H3.out.stateA.mono ?_
  rintro e w5 ⟨rfl, rfl⟩
  dsimp only
  rcases HF.out with ⟨f1, f2, hk⟩ | ⟨f1, f2, hk⟩
  · rw [f1]
    go_wp2_with fail
    refine H3.out.swap.stateA.mono ?_
    rintro e w6 ⟨rfl, rfl⟩
    dsimp only
    rw [f2]
    by_cases hst : s = t
    · subst hst
      go_wp2_with fail
      refine (HAL.out _).mono ?_
      rintro e w7 ⟨rfl, u7⟩
      go_wp2_with fail
      go_ret
      exact ⟨rfl, H3.out.u.trans u7⟩
    · have HKL := Lib.hid (HKA.out hk hst)
      have hst' := str_ne hst
      clear hst
      go_wp2_with fail
      refine (HMS.out _).mono ?_
      rintro e w7 ⟨rfl, u7⟩
      go_wp2_with fail
      refine (HMT.out _).mono ?_
      rintro e w8 ⟨rfl, u8⟩
      have H8 := Lib.hid (H3.out.keep (u7.trans u8))
      clear u7 u8
      obtain ⟨r, hr⟩ := HEQ.out w8
      cases r
      · go_wp2_with fail
        refine H8.out.stateA.mono ?_
        rintro e w9 ⟨rfl, rfl⟩
        dsimp only
        rw [f1]
        go_wp2_with fail
        refine (HKL.out _).mono ?_
        rintro e wy ⟨rfl, uy⟩
        go_wp2_with fail
        refine (HAL.out _).mono ?_
        rintro e wz ⟨rfl, uz⟩
        go_wp2_with fail
        go_ret
        exact ⟨rfl, (H8.out.u.trans uy).trans uz⟩
      · go_wp2_with fail
        refine (HAL.out _).mono ?_
        rintro e wz ⟨rfl, uz⟩
        go_wp2_with fail
        go_ret
        exact ⟨rfl, H8.out.u.trans uz⟩
  · rw [f1]
    by_cases hst : s = t
    · exact absurd (HKS.out hst) hk
    have hst' := str_ne hst
    clear hst
    go_wp2_with fail
    refine (HMS.out _).mono ?_
    rintro e w7 ⟨rfl, u7⟩
    go_wp2_with fail
    refine (HMT.out _).mono ?_
    rintro e w8 ⟨rfl, u8⟩
    have H8 := Lib.hid (H3.out.keep (u7.trans u8))
    clear u7 u8
    obtain ⟨r, hr⟩ := HEQ.out w8
    cases r
    · go_wp2_with fail
      refine H8.out.stateA.mono ?_
      rintro e w9 ⟨rfl, rfl⟩
      dsimp only
      rw [f1]
      go_wp2_with fail
      refine (HAL.out _).mono ?_
      rintro e wz ⟨rfl, uz⟩
      have H9 := Lib.hid (H8.out.keep uz)
      clear uz
      go_wp2_with fail
      refine H9.out.stateA.mono ?_
      rintro e wx ⟨rfl, rfl⟩
      dsimp only
      rw [f1]
      go_wp2_with fail
      refine H9.out.swap.stateA.mono ?_
      rintro e wx ⟨rfl, rfl⟩
      dsimp only
      rw [f2]
      go_wp2_with fail
      go_ret
      exact ⟨rfl, H9.out.u⟩
    · go_wp2_with fail
      refine (HAL.out _).mono ?_
      rintro e wz ⟨rfl, uz⟩
      go_wp2_with fail
      go_ret
      exact ⟨rfl, H8.out.u.trans uz⟩
theorem tunnelMeets_walk (s : ByteArray) {P : Prop} (_ : P) (t : ByteArray) {Q : Prop} (_ : Q) (W : World) : Calls Tryz.prog 3 #[.string s, .string t] W fun e w' => e = .returned (.bool true) ∧ Below W.heap.size W w' :=
  (tunnelMeets_any s t W).mono fun e W' ⟨he, hu⟩ => ⟨he, hu.below⟩
end Go.Proofs.YtolfjfkkbhbbbaaGreat
