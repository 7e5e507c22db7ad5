/- The walk of AvpBack. -/
import Derived.Test.YtbhohdhndelddaaAvpBP
import Derived.Test.YtbhohdhndelddaaAvpL
import Derived.Test.YtbhohdhndelddaaLightA
import Derived.Test.YtbhohdhndelddaaAvsIn
namespace Go.Proofs.Ytbhohdhndelddaa
open Go.RowKit
set_option linter.unusedSimpArgs false
set_option linter.unusedVariables false
set_option maxRecDepth 100000

theorem avs_shape {w : World} {v : Value} {l : List Av} {own : List Nat} {n : Nat} (h : Own w 33 5 v n (avCells l) own) (hn : n = l.length) : ∃ ao cap, v = .slice ao l.length cap ∧ AvsAt w (.slice ao l.length cap) l := by
  subst hn
  have h2 := AvsAt.of_own h
  obtain ⟨ao, cap, rfl, -⟩ := id h2
  exact ⟨ao, cap, rfl, h2⟩
set_option maxHeartbeats 8000000 in
theorem avpBack_any (l : List Av) (v : Value) (secret : ByteArray) (cut : Int) (w : World) (hl : AvsAt w v l) (hs : ∀ t ∈ l, t.val.size ≤ 140737488355328) (hss : secret.size ≤ 140737488355328) :
    Calls Try.prog 3 #[v, .string secret, .int .i64 cut] w fun e w' => e = .returned (.bool true) ∧ Upd [] w w' := by
  obtain ⟨ao, cap, rfl, h1, h2, h3⟩ := id hl
  obtain ⟨n, hn⟩ : ∃ n, l.length = n := ⟨_, rfl⟩
  have HLi := Lib.hid (lightA_any l _ w hl hs)
  rw [hn] at HLi h1
  rw [hn]
  have HN := Lib.hid hn
  have HL := Lib.hid hl
  simp only [maxLen] at h2
  clear h3 hl hn hs
  cases hli : LightA l
  · rw [hli] at HLi
    go_enter Try.func3, Try.ntmps3
    go_wp2_with fail
    refine HLi.out.mono ?_
    rintro e w1 ⟨rfl, hu1⟩
    go_wp2_with fail
    refine (alive18_any _).mono ?_
    rintro e w2 ⟨rfl, hu2⟩
    go_wp2_with fail
    go_ret
    exact ⟨rfl, hu1.trans hu2⟩
  rw [hli] at HLi
  clear hli
  by_cases t1 : 300 < secret.size
  · have t1' : (300 : Int) < secret.size := by omega
    go_enter Try.func3, Try.ntmps3
    go_wp2_with fail
    refine HLi.out.mono ?_
    rintro e w1 ⟨rfl, hu1⟩
    go_wp2_with fail
    refine (alive18_any _).mono ?_
    rintro e w2 ⟨rfl, hu2⟩
    go_wp2_with fail
    go_ret
    exact ⟨rfl, hu1.trans hu2⟩
  have t1' : ¬ (300 : Int) < secret.size := by omega
  by_cases t2 : cut < 0
  · go_enter Try.func3, Try.ntmps3
    go_wp2_with fail
    refine HLi.out.mono ?_
    rintro e w1 ⟨rfl, hu1⟩
    go_wp2_with fail
    refine (alive18_any _).mono ?_
    rintro e w2 ⟨rfl, hu2⟩
    go_wp2_with fail
    go_ret
    exact ⟨rfl, hu1.trans hu2⟩
  obtain ⟨c, rfl⟩ := Int.eq_ofNat_of_zero_le (show 0 ≤ cut by omega)
  have HLn : Hid (∀ W, Upd [] w W → AvsAt W (.slice ao n cap) l) := fun W hW => (show AvsAt w (.slice ao n cap) l from by rw [← HN.out]; exact HL.out).upd hW
  have HPut := Lib.hid (fun W hW => avpPut_any l (.slice ao n cap) secret W (HLn.out W hW) (by omega))
  have hbad := @putA_bad l secret
  have hok := @putA_ok l secret
  have hget := @getA_put l secret
  have hcut := @getA_cut l secret
  obtain ⟨s, er, hse⟩ : ∃ s er, putA l secret = (s, er) := ⟨_, _, rfl⟩
  rw [hse] at HPut hbad hok hget hcut
  dsimp only at HPut hbad hok hget hcut
  clear hse
  by_cases t3 : er = 0
  rotate_left
  · have t3' : (er != 0) = true := by simpa using t3
    obtain rfl := hbad t3
    clear hbad hok hget hcut t3
    go_enter Try.func3, Try.ntmps3
    go_wp2_with fail
    refine HLi.out.mono ?_
    rintro e w1 ⟨rfl, hu1⟩
    go_wp2_with fail
    refine (HPut.out _ hu1).mono ?_
    rintro e w2 ⟨rfl, hu2⟩
    go_wp2_with fail
    refine (alive18_any _).mono ?_
    rintro e w3 ⟨rfl, hu3⟩
    go_wp2_with fail
    go_ret
    exact ⟨rfl, (hu1.trans hu2).trans hu3⟩
  subst er
  have hsz : s.size ≤ 1488 := by have := hok rfl; rw [this.2.2.1]; exact this.2.2.2
  have HG := Lib.hid (fun W => avpGet_any s secret W (by omega) (by omega))
  rw [hget rfl] at HG
  dsimp only at HG
  rw [HN.out] at HG
  have hcut' := hcut rfl c
  rw [HN.out] at hcut'
  clear hbad hok hget hcut
  by_cases t4 : s.size ≤ c
  · have t4' : (s.size : Int) ≤ c := by omega
    clear hcut'
    go_enter Try.func3, Try.ntmps3
    go_wp2_with fail
    refine HLi.out.mono ?_
    rintro e w1 ⟨rfl, hu1⟩
    go_wp2_with fail
    refine (HPut.out _ hu1).mono ?_
    rintro e w2 ⟨rfl, hu2⟩
    have HU2 := Lib.hid (hu1.trans hu2)
    clear hu1 hu2
    go_wp2_with fail
    refine (HG.out _).mono ?_
    rintro e w3 ⟨vm, own, rfl, ho, -, hu3⟩
    have HU3 := Lib.hid (HU2.out.trans hu3)
    obtain ⟨am, cm, rfl, ha⟩ := avs_shape ho HN.out.symm
    have HM := Lib.hid ha
    rw [HN.out] at HM ⊢
    clear ho hu3 ha
    go_wp2_with fail
    refine (same_av l l _ _ _ HM.out (HLn.out _ HU3.out)).mono ?_
    rintro e w4 ⟨rfl, hu4⟩
    have HU4 := Lib.hid (HU3.out.trans hu4)
    rw [show decide (l = l) = true by simp]
    clear hu4
    go_wp2_with fail
    refine (alive18_any _).mono ?_
    rintro e w5 ⟨rfl, hu5⟩
    go_wp2_with fail
    go_ret
    exact ⟨rfl, HU4.out.trans hu5⟩
  have t4' : ¬ (s.size : Int) ≤ c := by omega
  have hcz : (s.extract 0 c).size ≤ 400000 := by rw [ByteArray.size_extract]; omega
  have HG2 := Lib.hid (fun W => avpGet_any (s.extract 0 c) secret W hcz (by omega))
  rcases hcut' (by omega) with h5 | ⟨k, hk, h5⟩
  · rw [h5] at HG2
    dsimp only at HG2
    clear hcut' h5 hcz
    go_enter Try.func3, Try.ntmps3
    go_wp2_with fail
    refine HLi.out.mono ?_
    rintro e w1 ⟨rfl, hu1⟩
    go_wp2_with fail
    refine (HPut.out _ hu1).mono ?_
    rintro e w2 ⟨rfl, hu2⟩
    have HU2 := Lib.hid (hu1.trans hu2)
    clear hu1 hu2
    go_wp2_with fail
    refine (HG.out _).mono ?_
    rintro e w3 ⟨vm, own, rfl, ho, -, hu3⟩
    have HU3 := Lib.hid (HU2.out.trans hu3)
    obtain ⟨am, cm, rfl, ha⟩ := avs_shape ho HN.out.symm
    have HM := Lib.hid ha
    rw [HN.out] at HM ⊢
    clear ho hu3 ha
    go_wp2_with fail
    refine (same_av l l _ _ _ HM.out (HLn.out _ HU3.out)).mono ?_
    rintro e w4 ⟨rfl, hu4⟩
    have HU4 := Lib.hid (HU3.out.trans hu4)
    rw [show decide (l = l) = true by simp]
    clear hu4
    go_wp2_with fail
    refine (HG2.out _).mono ?_
    rintro e w5 ⟨vm2, own2, rfl, ho2, -, hu5⟩
    have HU5 := Lib.hid (HU4.out.trans hu5)
    obtain ⟨am2, cm2, rfl, ha2⟩ := avs_shape (l := []) ho2 rfl
    simp only [List.length_nil]
    clear ho2 hu5 ha2
    go_wp2_with fail
    refine (alive18_any _).mono ?_
    rintro e w6 ⟨rfl, hu6⟩
    go_wp2_with fail
    go_ret
    exact ⟨rfl, HU5.out.trans hu6⟩
  · rw [h5] at HG2
    dsimp only at HG2
    have hkl : (l.take k).length = k := by rw [List.length_take, HN.out]; omega
    rw [hkl] at HG2
    have HKL := Lib.hid hkl
    have HT : Hid (∀ W, Upd [] w W → AvsAt W (.slice ao k cap) (l.take k)) := fun W hW => (HLn.out W hW).take k (by rw [HN.out]; exact hk)
    have hpt : Try.prog.underlying 22 = some (.slice (Try.prog.elem 22)) := by kernel_rfl
    have hszz : ∀ W, (sizeOf (Try.prog.elem 22)).run Try.prog W = .ok 5 W := fun W => by rw [show Try.prog.elem 22 = 33 by kernel_rfl]; exact Try.sizeOf33 W
    have HPF : Hid (∀ W, (Instr.slice 22 (.slice ao n cap) none (some (.int .i64 (k : Int))) none).run Try.prog W = .ok (.slice ao k cap) W) := fun W => run_prefix (P := Try.prog) 22 hpt 5 hszz ao n cap k (by omega) W
    have hkn : (k : Int) ≤ n := by omega
    clear hcut' h5 hcz hkl hpt hszz
    go_enter Try.func3, Try.ntmps3
    go_wp2_with fail
    refine HLi.out.mono ?_
    rintro e w1 ⟨rfl, hu1⟩
    go_wp2_with fail
    refine (HPut.out _ hu1).mono ?_
    rintro e w2 ⟨rfl, hu2⟩
    have HU2 := Lib.hid (hu1.trans hu2)
    clear hu1 hu2
    go_wp2_with fail
    refine (HG.out _).mono ?_
    rintro e w3 ⟨vm, own, rfl, ho, -, hu3⟩
    have HU3 := Lib.hid (HU2.out.trans hu3)
    obtain ⟨am, cm, rfl, ha⟩ := avs_shape ho HN.out.symm
    have HM := Lib.hid ha
    rw [HN.out] at HM ⊢
    clear ho hu3 ha
    go_wp2_with fail
    refine (same_av l l _ _ _ HM.out (HLn.out _ HU3.out)).mono ?_
    rintro e w4 ⟨rfl, hu4⟩
    have HU4 := Lib.hid (HU3.out.trans hu4)
    rw [show decide (l = l) = true by simp]
    clear hu4
    go_wp2_with fail
    refine (HG2.out _).mono ?_
    rintro e w5 ⟨vm2, own2, rfl, ho2, -, hu5⟩
    have HU5 := Lib.hid (HU4.out.trans hu5)
    obtain ⟨am2, cm2, rfl, ha2⟩ := avs_shape ho2 HKL.out.symm
    have HM2 := Lib.hid ha2
    rw [HKL.out] at HM2 ⊢
    clear ho2 hu5 ha2
    go_wp2_with fail
    refine (alive18_any _).mono ?_
    rintro e w6 ⟨rfl, hu6⟩
    have HU6 := Lib.hid (HU5.out.trans hu6)
    replace HM2 := Lib.hid (HM2.out.upd hu6)
    clear hu6
    have hpf := HPF.out w6
    go_wp2_with fail
    refine (same_av (l.take k) (l.take k) _ _ _ HM2.out (HT.out _ HU6.out)).mono ?_
    rintro e w7 ⟨rfl, hu7⟩
    rw [show decide (l.take k = l.take k) = true by simp]
    go_wp2_with fail
    go_ret
    exact ⟨rfl, HU6.out.trans hu7⟩

theorem avpBack_walk {H : Type} {enc : TypeId × Value → H} {v0 : Value} {d0 d1 d2 : DataW H} {p0 : List MemPlace} {W : World} {base : Nat}
    (h0 : DataW.Trod enc Try.prog W 0 (fun _ => true) true 22 v0 d0 p0) (o0 : Value.okWide Try.prog W .any base 22 v0)
    (sz : (DataW.weightsEach Try.prog [22, 9, 3] [d0, d1, d2]).all (· ≤ reachBytes) = true)
    (secret : ByteArray) (hss : secret.size ≤ reachBytes) (cut : Int) (_ : (Lit.int .i64 cut).wf = true) :
    Calls Try.prog 3 #[v0, .string secret, .int .i64 cut] W fun e w' => e = .returned (.bool true) ∧ Below W.heap.size W w' := by
  obtain ⟨l, hl, hls⟩ := avs_in h0 o0 (wt_each sz (j := 0) rfl rfl)
  exact (avpBack_any l v0 secret cut W hl hls (by unfold reachBytes at hss; omega)).mono fun e W' ⟨he, hu⟩ => ⟨he, hu.below⟩
end Go.Proofs.Ytbhohdhndelddaa
