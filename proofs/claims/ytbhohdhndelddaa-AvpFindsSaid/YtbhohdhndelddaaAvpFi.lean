/- The walk of AvpFinds. -/
import Derived.Test.YtbhohdhndelddaaAvpL
import Derived.Test.YtbhohdhndelddaaLightA
import Derived.Test.YtbhohdhndelddaaAvsIn
namespace Go.Proofs.Ytbhohdhndelddaa
open Go.RowKit
set_option linter.unusedSimpArgs false
set_option linter.unusedVariables false
set_option maxRecDepth 20000

set_option maxHeartbeats 4000000 in
theorem avpFinds_any (l : List Av) (v : Value) (kind : Int) (w : World) (hl : AvsAt w v l) (hs : ∀ t ∈ l, t.val.size ≤ 140737488355328) :
    Calls Try.prog 5 #[v, .int .i64 kind] w fun e w' => e = .returned (.bool true) ∧ Upd [] w w' := by
  obtain ⟨ao, cap, rfl, h1, h2, h3⟩ := id hl
  obtain ⟨n, hn⟩ : ∃ n, l.length = n := ⟨_, rfl⟩
  have HLi := Lib.hid (lightA_any l _ w hl hs)
  have HFi := Lib.hid (fun W h => avFind_any l (.slice ao l.length cap) kind W h)
  rw [hn] at HLi HFi h1
  rw [hn]
  have HN := Lib.hid hn
  have HL := Lib.hid hl
  simp only [maxLen] at h2
  clear h3 hl hn hs
  cases hli : LightA l
  · rw [hli] at HLi
    go_enter Try.func5, Try.ntmps5
    go_wp2_with fail
    refine HLi.out.mono ?_
    rintro e w1 ⟨rfl, hu1⟩
    go_wp2_with fail
    refine (alive18_any _).mono ?_
    rintro e w2 ⟨rfl, hu2⟩
    go_wp2_with fail
    go_ret
    exact ⟨rfl, hu1.trans hu2⟩
  rw [hli] at HLi
  clear hli
  obtain ⟨s, b, hf⟩ : ∃ s b, findAv kind l = (s, b) := ⟨_, _, rfl⟩
  rw [hf] at HFi
  have HF := Lib.hid hf
  clear hf
  go_enter Try.func5, Try.ntmps5
  go_wp2_with fail
  refine HLi.out.mono ?_
  rintro e w1 ⟨rfl, hu1⟩
  have HU1 := Lib.hid hu1
  clear hu1
  go_wp2_with fail
  refine (HFi.out _ ((by rw [← HN.out]; exact HL.out : AvsAt w (.slice ao n cap) l).upd HU1.out)).mono ?_
  rintro e w2 ⟨rfl, hu2⟩
  have HU2 := Lib.hid (HU1.out.trans hu2)
  have HL2 : Hid (AvsAt w2 (.slice ao n cap) l) := (by rw [← HN.out]; exact HL.out : AvsAt w (.slice ao n cap) l).upd HU2.out
  clear hu2
  go_wp2_with fail
  go_loopg [7] n (fun m s7 wr => ∃ k : Nat, k + m = n ∧ s7 = .int .i64 k ∧ findAv kind (l.drop k) = (s, b) ∧ wr = w2)
  case atStart => exact ⟨0, by omega, rfl, HF.out, rfl⟩
  case round =>
    obtain ⟨k, hk, rfl, hf, rfl⟩ := hrel
    by_cases t : k < n
    · obtain ⟨x, hx⟩ : ∃ x, l[k]? = some x := by
        have := HN.out
        exact ⟨_, List.getElem?_eq_getElem (by omega)⟩
      have hd : l.drop k = x :: l.drop (k + 1) := by
        obtain ⟨h5, h6⟩ := List.getElem?_eq_some_iff.1 hx
        rw [List.drop_eq_getElem_cons h5, h6]
      rw [hd, findAv, List.find?_cons] at hf
      obtain ⟨ao', cap', e0, _, _, h3⟩ := HL2.out
      injection e0 with e0 _ e2
      subst e0 e2
      obtain ⟨q, rfl, c0, c1, c2, c3, c4⟩ := h3 k x hx
      clear h3 hd hx
      by_cases t1 : x.vendor = 0
      · by_cases t2 : x.kind = kind
        · have hi : avIs kind x = true := by simp [avIs, t1, t2]
          rw [hi] at hf
          injection hf with hf1 hf2
          subst hf1 hf2
          rw [t1] at c2
          rw [t2] at c3
          clear t1 t2 hi
          have HC4 := Lib.hid c4
          clear c0 c1 c4
          go_wp2_with fail
          refine (alive18_any _).mono ?_
          rintro e w3 ⟨rfl, hu3⟩
          have c4 := (hu3.cell (cell_lt' HC4.out) (by simp)).trans HC4.out
          go_wp2_with fail
          go_ret
          exact ⟨rfl, HU2.out.trans hu3⟩
        · have hi : avIs kind x = false := by simp [avIs, t2]
          rw [hi] at hf
          have HFF : Hid (findAv kind (l.drop (k + 1)) = (s, b)) := hf
          have t2' : (x.kind == kind) = false := by simpa using t2
          rw [t1] at c2
          clear hf t1 t2 c0 c1 c4 hi
          go_wp2_with fail
          go_roundg (n - (k + 1))
          case rel => exact ⟨k + 1, by omega, by go_num, HFF.out, rfl⟩
          case measure => omega
      · have hi : avIs kind x = false := by simp [avIs, t1]
        rw [hi] at hf
        have HFF : Hid (findAv kind (l.drop (k + 1)) = (s, b)) := hf
        have t1' : (x.vendor == 0) = false := by simpa using t1
        clear hf t1 c0 c1 c3 c4 hi
        go_wp2_with fail
        go_roundg (n - (k + 1))
        case rel => exact ⟨k + 1, by omega, by go_num, HFF.out, rfl⟩
        case measure => omega
    · obtain rfl : k = n := by omega
      have hd : l.drop k = [] := by rw [← HN.out]; simp
      rw [hd] at hf
      injection hf with hf1 hf2
      subst hf1 hf2
      clear hd
      go_wp2_with fail
      refine (alive18_any _).mono ?_
      rintro e w3 ⟨rfl, hu3⟩
      have HU3 := Lib.hid (HU2.out.trans hu3)
      have HL3 := Lib.hid (HL2.out.upd hu3)
      clear hu3
      go_wp2_with fail
      refine (same_av l l _ _ _ HL3.out HL3.out).mono ?_
      rintro e w4 ⟨rfl, hu4⟩
      rw [show decide (l = l) = true by simp]
      go_wp2_with fail
      go_ret
      exact ⟨rfl, HU3.out.trans hu4⟩

theorem avpFinds_walk {H : Type} {enc : TypeId × Value → H} {v0 : Value} {d0 d1 : DataW H} {p0 : List MemPlace} {W : World} {base : Nat}
    (h0 : DataW.Trod enc Try.prog W 0 (fun _ => true) true 22 v0 d0 p0) (o0 : Value.okWide Try.prog W .any base 22 v0)
    (kind : Int) (_ : (Lit.int .i64 kind).wf = true)
    (sz : (DataW.weightsEach Try.prog [22, 3] [d0, d1]).all (· ≤ reachBytes) = true) :
    Calls Try.prog 5 #[v0, .int .i64 kind] W fun e w' => e = .returned (.bool true) ∧ Below W.heap.size W w' := by
  obtain ⟨l, hl, hls⟩ := avs_in h0 o0 (wt_each sz (j := 0) rfl rfl)
  exact (avpFinds_any l v0 kind W hl hls).mono fun e W' ⟨he, hu⟩ => ⟨he, hu.below⟩
end Go.Proofs.Ytbhohdhndelddaa
