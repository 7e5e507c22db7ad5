/- The walk of chapter 21's TunnelStrange. -/
import Derived.Test.YtolfjfkkbhbbbaaGreatQTunLA
import Derived.Test.YtolfjfkkbhbbbaaGreatQRawIn
namespace Go.Proofs.YtolfjfkkbhbbbaaGreat
open Go.RowKit
set_option linter.unusedSimpArgs false
set_option linter.unusedVariables false
set_option maxRecDepth 100000

/-- A live end does not hear what is not for it. -/
theorem live_strange {T : Tn} (h3 : T.state = 3) {b : ByteArray} {m : Cm} {e : Int} (hg : getM b T.secret = (m, e)) (h : e ≠ 0 ∨ m.t ≠ T.cid) : T.take b = (T, []) := by
  rw [Tn.take, if_neg (by rw [h3]; decide), hg]
  dsimp only
  by_cases he : e = 0
  · rw [if_neg (fun h => h he), Tn.takeM, if_pos ⟨h.resolve_left (fun h => h he), .inr (.inr ⟨by rw [h3]; decide, by rw [h3]; decide⟩)⟩]
  · rw [if_pos he]
section
variable {w W : World} {pa pb : Nat} {a b : Tn}
theorem Two.takeNone (h : Two w W pa pb a b) (s : ByteArray) (hs : s.size ≤ 400000) {N : Nat} (hg : a.Good N) (ht : a.take s = (a, [])) :
    Calls Tryz.prog 21 #[.pointer (some ⟨pa, 0, none⟩), .string s] W fun e w' => e = .returned (.slice none 0 0) ∧ Two w w' pa pb a b := by
  obtain ⟨⟨oa, ob, h1, h2, h3, h4, h5⟩, hu⟩ := h
  refine (ttake_any h1 s hs hg.secret hg.asked (by have := hg.asks; omega) hg.nw).mono ?_
  rw [ht]
  rintro e w' ⟨⟨u, oa', rfl, k1, k2, k4⟩, k3⟩
  obtain ⟨z1, z2, z3, z4⟩ := Two.nextA h1 h2 h3 h4 h5 hu k1 k2 k3
  rcases k4 with ⟨-, rfl⟩ | ⟨g, m, v, ol, k5, -⟩
  · exact ⟨rfl, ⟨oa', ob, k1, z1, z2, z3, h5⟩, z4⟩
  · cases k5
end
theorem stopL_clear : Clear [numAv 0 4 2] := ⟨by simp, by simp, fun a ha => by simp only [List.mem_singleton] at ha; subst ha; exact ⟨rfl, ⟨by decide, by decide⟩, rfl, by simp [numAv, be_size]⟩⟩

set_option maxHeartbeats 2000000 in
theorem tunnelStrange_any (s : ByteArray) (id : Int) (l : List ByteArray) (v : Value) (w : World) (hl : TextsAt w v l) (hls : ∀ x ∈ l, x.size ≤ maxLen) :
    Calls Tryz.prog 6 #[.string s, .int .i64 id, v] w (AliveEnd w) := by
  have HAL := Lib.hid alive21_any
  have HL := Lib.hid hl
  have HLS := Lib.hid hls
  obtain ⟨ao, cap, rfl, hcap, hcm, -⟩ := hl
  obtain ⟨n, hn⟩ : ∃ n, l.length = n := ⟨_, rfl⟩
  have HN := Lib.hid hn
  rw [hn] at hcap
  rw [hn]
  simp only [maxLen] at hcm
  clear hls hn
  by_cases hbad : s.size ≤ 60 ∧ n ≤ 40 ∧ 0 ≤ id ∧ id ≤ 65535 ∧ id ≠ 5
  case neg =>
    have hall : ∀ (P : Prop), (60 < s.size → P) → (s.size ≤ 60 → 40 < n → P) → (s.size ≤ 60 → n ≤ 40 → id < 0 → P) → (s.size ≤ 60 → n ≤ 40 → 0 ≤ id → 65535 < id → P) → (s.size ≤ 60 → n ≤ 40 → 0 ≤ id → id ≤ 65535 → id = 5 → P) → P := by
      intro P h1 h2 h3 h4 h5
      by_cases c1 : s.size ≤ 60
      · by_cases c2 : n ≤ 40
        · by_cases c3 : 0 ≤ id
          · by_cases c4 : id ≤ 65535
            · exact h5 c1 c2 c3 c4 (Classical.byContradiction fun h => hbad ⟨c1, c2, c3, c4, h⟩)
            · exact h4 c1 c2 c3 (by omega)
          · exact h3 c1 c2 (by omega)
        · exact h2 c1 (by omega)
      · exact h1 (by omega)
    clear hbad
    refine hall _ ?_ ?_ ?_ ?_ ?_
    all_goals
      intros
      try subst id
      go_enter Tryz.func6, Tryz.ntmps6
      go_wp2_with fail
      refine (HAL.out _).mono ?_
      rintro e w1 ⟨rfl, u1⟩
      go_wp2_with fail
      go_ret
      exact ⟨rfl, u1⟩
  obtain ⟨hs, hn40, hi0, hi1, hi5⟩ := hbad
  have z5 : (id == 5) = false := beq_false_of_ne hi5
  have HP := Lib.hid ((pair_any s s hs hs w).mono fun e w' k => k.ex)
  have HO : Hid ((endA s).open_ = (openC (endA s), 0)) := open_endA _
  have HG := Lib.hid (endA_good s hs)
  have HME : Hid (∀ W pa pb, Two w W pa pb (openC (endA s)) (endB s) → Calls Tryz.prog 13 #[.pointer (some ⟨pa, 0, none⟩), .pointer (some ⟨pb, 0, none⟩), .int .i64 4] W (MetEnd w pa pb (O5 (endA s) (endB s), R5 (endA s) (endB s)) 20000)) := by
    intro W pa pb h
    have k := pair_meet s s hs hs h 4 (by omega)
    rw [meet_know (startA s) (startB s) rfl (know_same rfl) 2] at k
    exact k
  have F : Hid ((O5 (endA s) (endB s)).state = 3 ∧ (O5 (endA s) (endB s)).cid = 5 ∧ (O5 (endA s) (endB s)).secret = s) := ⟨rfl, rfl, rfl⟩
  have HOUT : Hid ((O5 (endA s) (endB s)).out = (O5 (endA s) (endB s), [])) := by
    show _ = _
    rw [out_none (O5 (endA s) (endB s)) (x := 2) (y := 1) (r := 3) (c := 0) (fl := []) rfl rfl]
    rfl
  have HW : Words id 0 0 0 := ⟨by omega, by omega, by omega, by omega⟩
  obtain ⟨raw, hraw⟩ : ∃ raw, rawOf id 0 0 0 (encC [numAv 0 4 2]) = raw := ⟨_, rfl⟩
  have HPUT : Hid (putM ⟨id, 0, 0, 0, [numAv 0 4 2]⟩ s = (raw, 0)) := by
    show _ = _
    rw [putM, if_neg HW.over]
    dsimp only
    rw [putA_clear stopL_clear, if_neg (by simp), hraw]
  have HRT : Hid ((O5 (endA s) (endB s)).take raw = (O5 (endA s) (endB s), [])) := by
    have hgm : getM raw s = (⟨id, 0, 0, 0, [numAv 0 4 2]⟩, 0) := by rw [← hraw]; exact raw_get HW (putA_clear stopL_clear s)
    exact live_strange (T := O5 (endA s) (endB s)) rfl hgm (.inr hi5)
  have HRZ : Hid (raw.size ≤ 400000) := by
    show _ ≤ _
    have hp := stopL_clear.pos
    rw [← hraw, rawOf, ByteArray.size_append, ByteArray.size_append, wordsOf_size, strOfNums_size]
    show 2 + (0 + 2 * 5) + _ ≤ _
    omega
  clear hraw HW
  generalize O5 (endA s) (endB s) = A5 at *
  generalize R5 (endA s) (endB s) = B5 at *
  generalize openC (endA s) = A1 at *
  generalize endA s = A0 at *
  generalize endB s = B0 at *
  have HSZ := Lib.hid hs
  have HID := Lib.hid (And.intro hi0 (And.intro hi1 hi5))
  clear hi5
  go_enter Tryz.func6, Tryz.ntmps6
  go_wp2_with fail
  refine HP.out.mono ?_
  rintro e w1 ⟨pa, pb, rfl, h1⟩
  have H1 := Lib.hid h1
  clear h1
  go_wp2_with fail
  refine (H1.out.openA HG.out).mono ?_
  rintro e w2 ⟨rfl, h2⟩
  rw [HO.out] at h2
  simp only [HO.out]
  have H2 := Lib.hid h2
  clear h2
  go_wp2_with fail
  refine (HME.out _ _ _ H2.out).mono ?_
  rintro e w3 ⟨rfl, h3⟩
  have H3 := Lib.hid h3.two
  have HGA := Lib.hid h3.ga
  clear h3 HME HG HO HP
  go_wp2_with fail
  go_loopg [10] n (fun m s10 wr => ∃ k : Nat, k + m = n ∧ s10 = .int .i64 k ∧ Two w wr pa pb A5 B5)
  case atStart => exact ⟨0, by omega, rfl, H3.out⟩
  case round =>
    obtain ⟨k, hk, rfl, hr⟩ := hrel
    have HR := Lib.hid hr
    clear hr
    by_cases tt : k < n
    · obtain ⟨x, hx⟩ : ∃ x, l[k]? = some x := ⟨_, List.getElem?_eq_getElem (by have := HN.out; omega)⟩
      obtain ⟨ao', cap', e0, -, -, h9⟩ := HL.out.upd HR.out.u
      injection e0 with e0 e1 e2
      clear e1
      subst e0 e2
      obtain ⟨q, rfl, c0⟩ := h9 k x hx
      clear h9
      by_cases hx15 : x.size ≤ 1500
      case neg =>
        go_wp2_with fail
        refine (HAL.out _).mono ?_
        rintro e wz ⟨rfl, uz⟩
        go_wp2_with fail
        go_ret
        exact ⟨rfl, HR.out.u.trans uz⟩
      have HGE := Lib.hid (fun W => msgGet_any x s (by omega) (by have := HSZ.out; omega) W)
      have HGV : Hid (∃ m er, getM x s = (m, er)) := ⟨_, _, rfl⟩
      obtain ⟨m, er, hge⟩ := HGV.out
      have HGG : Hid (getM x A5.secret = (m, er)) := by show _ = _; rw [show A5.secret = s from F.out.2.2]; exact hge
      rw [hge] at HGE
      have C0 := Lib.hid c0
      clear HGV hge hx
      go_wp2_with fail
      refine (HGE.out _).mono ?_
      rintro e w4 ⟨vv, ol, rfl, ho, hnw, u4⟩
      obtain ⟨aq, cq, rfl, -, -⟩ := ho.shape
      obtain ⟨lq, hlq⟩ : ∃ lq, m.l.length = lq := ⟨_, rfl⟩
      rw [hlq]
      simp only [Cm.val]
      have H4 := Lib.hid ((HR.out.keep u4).keep ((Upd.refl [] _).alloc (Obj.cells #[.int .i64 m.t, .int .i64 m.s, .int .i64 m.ns, .int .i64 m.nr, .slice aq lq cq] 55)))
      have c5 := (((u4).alloc (Obj.cells #[.int .i64 m.t, .int .i64 m.s, .int .i64 m.ns, .int .i64 m.nr, .slice aq lq cq] 55)).cell (cell_lt' C0.out) (by simp)).trans C0.out
      have HC5 := Lib.hid c5
      clear ho hnw u4 hlq c0
      by_cases he : er = 0
      · by_cases ht5 : m.t = 5
        · have y0 : (er == 0) = true := by rw [he]; rfl
          have y1 : (m.t == 5) = true := by rw [ht5]; rfl
          clear he ht5
          go_wp2_with fail
          go_roundg (n - (k + 1))
          case rel => exact ⟨k + 1, by omega, by go_num, H4.out⟩
          case measure => omega
        · have y0 : (er == 0) = true := by rw [he]; rfl
          have y1 : (m.t == 5) = false := beq_false_of_ne ht5
          have HTK := Lib.hid (live_strange F.out.1 HGG.out (by right; rw [show A5.cid = 5 from F.out.2.1]; exact ht5))
          go_wp2_with fail
          refine (H4.out.takeNone x (by omega) HGA.out HTK.out).mono ?_
          rintro e w5 ⟨rfl, h5⟩
          have H5 := Lib.hid h5
          clear h5
          go_wp2_with fail
          go_roundg (n - (k + 1))
          case rel => exact ⟨k + 1, by omega, by go_num, H5.out⟩
          case measure => omega
      · have y0 : (er == 0) = false := beq_false_of_ne he
        have HTK := Lib.hid (live_strange F.out.1 HGG.out (by left; exact he))
        go_wp2_with fail
        refine (H4.out.takeNone x (by omega) HGA.out HTK.out).mono ?_
        rintro e w5 ⟨rfl, h5⟩
        have H5 := Lib.hid h5
        clear h5
        go_wp2_with fail
        go_roundg (n - (k + 1))
        case rel => exact ⟨k + 1, by omega, by go_num, H5.out⟩
        case measure => omega
    · obtain rfl : k = n := by omega
      go_wp2_with fail
      refine (make_any 4 [] (.slice none 0 0) _ (AvsAt.nil _) (by simp)).mono ?_
      rintro e w6 ⟨u, o6, rfl, ho6, -, hu6⟩
      have ho7 : Own w6 51 5 u [numAv 0 4 2].length (avCells [numAv 0 4 2]) o6 := ho6
      obtain ⟨a6, c6, rfl, -, -⟩ := ho7.shape
      have H6 := Lib.hid (HR.out.keep hu6)
      have HPU := Lib.hid (msgPutM_any ⟨id, 0, 0, 0, [numAv 0 4 2]⟩ _ s w6 (AvsAt.of_own ho7) (by have := HSZ.out; omega))
      rw [HPUT.out] at HPU
      simp only [Cm.val, List.length_cons, List.length_nil, Nat.zero_add] at HPU ⊢
      clear ho6 ho7 hu6
      go_wp2_with fail
      refine HPU.out.mono ?_
      rintro e w7 ⟨rfl, u7⟩
      have H7 := Lib.hid (H6.out.keep u7)
      clear u7
      go_wp2_with fail
      refine (H7.out.takeNone raw HRZ.out HGA.out HRT.out).mono ?_
      rintro e w8 ⟨rfl, h8⟩
      have H8 := Lib.hid h8
      clear h8
      go_wp2_with fail
      refine (HAL.out _).mono ?_
      rintro e w9 ⟨rfl, u9⟩
      have H9 := Lib.hid (H8.out.keep u9)
      clear u9
      go_wp2_with fail
      refine H9.out.stateA.mono ?_
      rintro e w10 ⟨rfl, rfl⟩
      rw [show A5.state = 3 from F.out.1]
      go_wp2_with fail
      refine (H9.out.outA HGA.out).mono ?_
      rw [HOUT.out]
      rintro e w11 ⟨vo, rfl, h11⟩
      obtain ⟨ao11, cap11, rfl⟩ := h11.shape
      have H11 := Lib.hid h11
      clear h11
      simp only [List.length_nil]
      go_wp2_with fail
      go_ret
      exact ⟨rfl, H11.out.u⟩
theorem tunnelStrange_walk {H : Type} {enc : TypeId × Value → H} {v2 : Value} {d2 : DataW H} {p2 : List MemPlace} {W : World} {base : Nat} (s : ByteArray) {P : Prop} (_ : P) (id : Int) {Q : Prop} (_ : Q)
    (h2 : DataW.Trod enc Tryz.prog W 0 (fun _ => true) true 41 v2 d2 p2) (o2 : Value.okWide Tryz.prog W .any base 41 v2) :
    Calls Tryz.prog 6 #[.string s, .int .i64 id, v2] W fun e w' => e = .returned (.bool true) ∧ Below W.heap.size W w' := by
  obtain ⟨l, hl, hls⟩ := texts_in h2 o2
  exact (tunnelStrange_any s id l v2 W hl hls).mono fun e w' ⟨he, hu⟩ => ⟨he, hu.below⟩
end Go.Proofs.YtolfjfkkbhbbbaaGreat
