/- The walk of the statement TagCut. -/
import Derived.Test.YtopgphbmlcophaaTagBack
namespace Go.Proofs.Ytopgphbmlcophaa
open Go.RowKit
set_option linter.unusedSimpArgs false
set_option linter.unusedVariables false

theorem lenAll_append (l m : List Tg) : lenAll (l ++ m) = lenAll l + lenAll m := by simp [lenAll]
theorem lenAll_le (m : List Tg) (h : ∀ t ∈ m, t.Ok) : lenAll m ≤ m.length * 1498 := by
  induction m with
  | nil => simp [lenAll]
  | cons t m ih =>
    have h1 := ih (fun x hx => h x (by simp [hx]))
    have h2 := (h t (by simp)).2.2
    rw [lenAll_cons, List.length_cons, Nat.add_mul]
    omega
theorem lenAll_take_succ (l : List Tg) (k : Nat) (t : Tg) (h : l[k]? = some t) : lenAll (l.take (k + 1)) = lenAll (l.take k) + (4 + t.s.size) := by
  obtain ⟨h5, h6⟩ := List.getElem?_eq_some_iff.1 h
  rw [List.take_succ_eq_append_getElem h5, h6, lenAll_append]
  simp [lenAll]
theorem prefix_of (a b : ByteArray) (k : Nat) (h : k ≤ a.size) : (a ++ b).extract 0 k = a.extract 0 k := by
  apply ByteArray.ext
  simp only [ByteArray.data_extract, ByteArray.data_append]
  rw [Array.extract_append]
  have : b.data.extract (0 - a.data.size) (k - a.data.size) = #[] := by
    have : k - a.data.size = 0 := by have : a.data.size = a.size := rfl; omega
    rw [this]; simp
  rw [this, Array.append_empty]
theorem prefix_to (a b : ByteArray) (k : Nat) : (a ++ b).extract 0 (a.size + k) = a ++ b.extract 0 k := by
  apply ByteArray.ext
  simp only [ByteArray.data_extract, ByteArray.data_append]
  rw [Array.extract_append]
  have h1 : a.data.extract 0 (a.size + k) = a.data := Array.extract_eq_self_of_le (by show a.size ≤ _; omega)
  have h2 : a.size + k - a.data.size = k := by have : a.data.size = a.size := rfl; omega
  rw [h1, h2, show 0 - a.data.size = 0 by omega]
/-- Tags cut at one's end. -/
theorem cut_end (l : List Tg) (hl : ∀ t ∈ l, t.Ok) (h20 : l.length ≤ 20) (k : Nat) : getTgs ((encTgs l).extract 0 (lenAll (l.take k))) = (l.take k, 0) := by
  have e : encTgs l = encTgs (l.take k) ++ encTgs (l.drop k) := by rw [← encTgs_append, List.take_append_drop]
  rw [e, prefix_of _ _ _ (by rw [encTgs_size]; exact Nat.le_refl _), ← encTgs_size (l.take k), ByteArray.extract_zero_size]
  exact getTgs_back _ (fun t ht => hl t (List.mem_of_mem_take ht)) (by rw [List.length_take]; omega)
/-- Tags cut within one. -/
theorem cut_in (l : List Tg) (hl : ∀ t ∈ l, t.Ok) (h20 : l.length ≤ 20) (k : Nat) (t : Tg) (ht : l[k]? = some t) (c : Nat) (h0 : lenAll (l.take k) < c) (h1 : c < lenAll (l.take k) + 4 + t.s.size) :
    getTgs ((encTgs l).extract 0 c) = ([], 5) := by
  obtain ⟨h5, h6⟩ := List.getElem?_eq_some_iff.1 ht
  have hd : l.drop k = t :: l.drop (k + 1) := by rw [List.drop_eq_getElem_cons h5, h6]
  have e : encTgs l = encTgs (l.take k) ++ (t.bytes ++ encTgs (l.drop (k + 1))) := by rw [← encTgs_cons, ← hd, ← encTgs_append, List.take_append_drop]
  obtain ⟨j, rfl⟩ : ∃ j, c = lenAll (l.take k) + j := ⟨c - lenAll (l.take k), by omega⟩
  rw [e, ← encTgs_size (l.take k), prefix_to, prefix_of _ _ _ (by rw [Tg.bytes_size]; omega)]
  obtain ⟨m', hm, h⟩ := getFrom_tags (l.take k) (fun t ht => hl t (List.mem_of_mem_take ht)) _ (t.bytes.extract 0 j) [] (Nat.le_refl _) (by rw [List.length_take]; simp; omega)
  rw [getTgs, h]
  have hsz : (t.bytes.extract 0 j).size = j := by rw [ByteArray.size_extract, Tg.bytes_size]; omega
  exact getFrom_cut (hl t (List.mem_of_getElem? ht)) (by omega) (by omega) (by omega)

theorem TgsAt.take {w : World} {ao : Option Addr} {n cap : Nat} {l : List Tg} (h : TgsAt w (.slice ao n cap) l) (k : Nat) (hk : k ≤ l.length) : TgsAt w (.slice ao k cap) (l.take k) := by
  obtain ⟨ao', cap', e, h1, h2, h3⟩ := h
  injection e with e1 e2 e3
  subst e1 e3
  have hl : (l.take k).length = k := by rw [List.length_take]; omega
  refine ⟨ao, cap, by rw [hl], by omega, h2, fun i t ht => ?_⟩
  rw [List.getElem?_take] at ht
  split at ht
  · exact h3 i t ht
  · cases ht

set_option maxHeartbeats 4000000 in
set_option maxRecDepth 100000 in
theorem tagCut_any (d : Dc) (l : List Tg) (v : Value) (at_ : Int) (w : World) (hl : TgsAt w v l) (hls : ∀ t ∈ l, t.s.size ≤ 140737488355328) (hd : d.data.size ≤ 140737488355328) :
    Calls Try.prog 5 #[d.val, v, .int .i64 at_] w fun e w' => e = .returned (.bool true) ∧ Upd [] w w' := by
  obtain ⟨ao, cap, rfl, hc1, hc2, -⟩ := id hl
  have HL := Lib.hid hl
  have HLS := Lib.hid hls
  clear hl hls
  obtain ⟨A, hA⟩ : ∃ A, A = Obj.cells #[Value.int IntKind.i64 d.code, Value.int IntKind.i64 d.sess, Value.string d.data] 30 := ⟨_, rfl⟩
  have A0 : Blk (w.alloc A) w.heap.size 30 #[Value.int IntKind.i64 d.code, Value.int IntKind.i64 d.sess, Value.string d.data] := by rw [hA]; exact Blk.new _ _ _
  have U0 := Lib.hid ((Upd.refl [] w).alloc A)
  have HA := Lib.hid hA
  have HC : Hid (∀ W, Upd [] (w.alloc A) W → W.cell? ⟨w.heap.size, 0, none⟩ = some (.int .i64 d.code) ∧ W.cell? ⟨w.heap.size, 1, none⟩ = some (.int .i64 d.sess) ∧ W.cell? ⟨w.heap.size, 2, none⟩ = some (.string d.data)) := fun W hu =>
    ⟨(A0.upd hu (by simp)).cell 0, (A0.upd hu (by simp)).cell 1, (A0.upd hu (by simp)).cell 2⟩
  clear A0 hA
  by_cases t1 : Light l = true
  rotate_left
  · have T1 : Hid (Light l = false) := by show _ = _; simpa using t1
    clear t1
    go_enter Try.func5, Try.ntmps5
    simp only [Dc.val]
    go_wp2_with fail
    rw [← HA.out]
    refine (light_any l _ _ (HL.out.upd U0.out) HLS.out).mono ?_
    rintro e w1 ⟨rfl, hu1⟩
    rw [T1.out]
    go_wp2_with fail
    refine (alive_any _).mono ?_
    rintro e w2 ⟨rfl, hu2⟩
    go_wp2_with fail
    go_ret
    exact ⟨rfl, (U0.out.trans hu1).trans hu2⟩
  have T1 := Lib.hid t1
  clear t1
  by_cases t2 : 1500 < d.data.size
  · have t2' : (1500 : Int) < d.data.size := by omega
    go_enter Try.func5, Try.ntmps5
    simp only [Dc.val]
    go_wp2_with fail
    rw [← HA.out]
    refine (light_any l _ _ (HL.out.upd U0.out) HLS.out).mono ?_
    rintro e w1 ⟨rfl, hu1⟩
    rw [T1.out]
    have hc := HC.out w1 hu1
    go_wp2_with fail
    refine (alive_any _).mono ?_
    rintro e w2 ⟨rfl, hu2⟩
    go_wp2_with fail
    go_ret
    exact ⟨rfl, (U0.out.trans hu1).trans hu2⟩
  have t2' : ¬ (1500 : Int) < d.data.size := by omega
  by_cases t3 : at_ < 0
  · go_enter Try.func5, Try.ntmps5
    simp only [Dc.val]
    go_wp2_with fail
    rw [← HA.out]
    refine (light_any l _ _ (HL.out.upd U0.out) HLS.out).mono ?_
    rintro e w1 ⟨rfl, hu1⟩
    rw [T1.out]
    have hc := HC.out w1 hu1
    go_wp2_with fail
    refine (alive_any _).mono ?_
    rintro e w2 ⟨rfl, hu2⟩
    go_wp2_with fail
    go_ret
    exact ⟨rfl, (U0.out.trans hu1).trans hu2⟩
  obtain ⟨c, rfl⟩ := Int.eq_ofNat_of_zero_le (show 0 ≤ at_ by omega)
  have t3' : ¬ (c : Int) < 0 := by omega
  clear t3
  obtain ⟨b, e0, hp⟩ : ∃ b e, d.put = (b, e) := ⟨_, _, rfl⟩
  obtain ⟨s, g0, hq⟩ : ∃ b e, putTgs l = (b, e) := ⟨_, _, rfl⟩
  have HP := Lib.hid hp
  have HQ := Lib.hid hq
  clear hq
  go_enter Try.func5, Try.ntmps5
  simp only [Dc.val]
  go_wp2_with fail
  rw [← HA.out]
  refine (light_any l _ _ (HL.out.upd U0.out) HLS.out).mono ?_
  rintro e w1 ⟨rfl, hu1⟩
  rw [T1.out]
  have HU1 := Lib.hid hu1
  have hc := HC.out w1 hu1
  clear hu1
  go_wp2_with fail
  refine (put_any d (by simp only [maxLen]; omega) _).mono ?_
  rintro e w2 ⟨rfl, hu2⟩
  rw [HP.out]
  have HU2 := Lib.hid (U0.out.trans (HU1.out.trans hu2))
  clear hu2 HU1 hc HC U0 HA
  by_cases he : e0 = 0
  focus
    subst he
    obtain ⟨rfl, hok⟩ := Dc.put_ok hp
    have hsz := Dc.bytes_size d
    by_cases hcs : c < d.bytes.size
    focus
      obtain ⟨S, hS⟩ : ∃ S, S = d.bytes.extract 0 c := ⟨_, rfl⟩
      have hSs : S.size ≤ maxLen := by rw [hS, ByteArray.size_extract]; simp only [maxLen]; omega
      obtain ⟨⟨c1, s1, b1⟩, e1, hG⟩ : ∃ r e, Dc.get S = (r, e) := ⟨_, _, rfl⟩
      have he1 : e1 = 5 := by
        have := Dc.get_cut hok c hcs
        rw [← hS, hG] at this
        exact this
      subst he1
      have HG := Lib.hid hG
      have HS := Lib.hid hS
      have HSS := Lib.hid hSs
      have hcs' : (c : Int) < d.bytes.size := by omega
      clear hS hSs hG hok hsz hp
      go_wp2_with fail
      rw [← HS.out]
      refine (get_any S HSS.out _).mono ?_
      rintro e w4 ⟨rfl, hu4⟩
      rw [HG.out]
      simp only [Dc.val]
      have HU5 := Lib.hid ((HU2.out.trans hu4).alloc (Obj.cells #[Value.int IntKind.i64 c1, Value.int IntKind.i64 s1, Value.string b1] 30))
      clear hu4 HU2
      go_wp2_with fail
      clear HG HP HS HSS
    rotate_left
    focus
      have hcs' : ¬ (c : Int) < d.bytes.size := by omega
      have HU5 := Lib.hid HU2.out
      clear hp hok hsz
      go_wp2_with fail
      clear HP HU2
  rotate_left 2
  focus
    have he' : (e0 == 0) = false := by simpa using he
    have HU5 := Lib.hid HU2.out
    clear he hp
    go_wp2_with fail
    clear he' HP HU2
  all_goals
    clear T1
    refine (putTags_any l _ _ (HL.out.upd HU5.out) HLS.out).mono ?_
    rintro e w6 ⟨rfl, hu6⟩
    rw [HQ.out]
    have HU6 := Lib.hid (HU5.out.trans hu6)
    clear hu6 HU5
    by_cases hg : g0 = 0
    · subst hg
      obtain ⟨hs, h20, hall⟩ := putTgs_ok l s HQ.out
      have hls2 := lenAll_le l hall
      have hsz : s.size = lenAll l := by rw [hs, encTgs_size]
      by_cases hcs : s.size < c
      · have hcs' : (s.size : Int) < c := by omega
        clear hs h20 hall hls2 hsz
        go_wp2_with fail
        refine (alive_any _).mono ?_
        rintro e w7 ⟨rfl, hu7⟩
        go_wp2_with fail
        go_ret
        exact ⟨rfl, HU6.out.trans hu7⟩
      · have hcs' : ¬ (s.size : Int) < c := by omega
        have HS := Lib.hid hs
        have HSZ := Lib.hid hsz
        have HALL := Lib.hid hall
        have H20 := Lib.hid h20
        have hcb : c ≤ 29960 := by omega
        obtain ⟨n, hn⟩ : ∃ n, n = l.length := ⟨_, rfl⟩
        have HN := Lib.hid hn
        rw [← hn] at hc1 h20
        rw [← hn]
        clear hs hsz hall hls2 hn
        go_wp2_with fail
        go_loopg [13, 14] n (fun m s13 s14 wr => wr = w6 ∧ ∃ k : Nat, k + m = n ∧ s14 = .int .i64 k ∧ s13 = .int .i64 (lenAll (l.take k)) ∧ lenAll (l.take k) ≤ c)
        case atStart => exact ⟨rfl, 0, by omega, rfl, rfl, by simp [lenAll]⟩
        case round =>
          obtain ⟨rfl, k, hk, rfl, rfl, hkc⟩ := hrel
          by_cases t : k < n
          · obtain ⟨x, hx⟩ : ∃ x, l[k]? = some x := by
              have := HN.out
              exact ⟨_, List.getElem?_eq_getElem (by omega)⟩
            have hsx := (HALL.out x (List.mem_of_getElem? hx)).2.2
            obtain ⟨ao', cap', e0, _, _, h3⟩ := HL.out.upd HU6.out
            injection e0 with e0 _ e2
            subst e0 e2
            obtain ⟨q, rfl, c0, c1⟩ := h3 k x hx
            clear h3
            have HX := Lib.hid (lenAll_take_succ l k x hx)
            by_cases t4 : lenAll (l.take k) + 4 + x.s.size ≤ c
            · have t4' : ((lenAll (l.take k) : Nat) : Int) + 4 + x.s.size ≤ c := by omega
              clear hx
              go_wp2_with fail
              go_roundg (n - (k + 1))
              case rel => exact ⟨rfl, k + 1, by omega, by go_num, by rw [HX.out]; go_num, by rw [HX.out]; omega⟩
              case measure => omega
            · have t4' : ¬ ((lenAll (l.take k) : Nat) : Int) + 4 + x.s.size ≤ c := by omega
              by_cases hkc' : lenAll (l.take k) < c
              · clear HX
                have HG : Hid (getTgs (s.extract 0 c) = ([], 5)) := by
                  show _ = _
                  rw [HS.out]
                  exact cut_in l HALL.out H20.out k x hx c (by omega) (by omega)
                obtain ⟨S, hS⟩ : ∃ S, S = s.extract 0 c := ⟨_, rfl⟩
                have hSs : S.size ≤ 140737488355328 := by rw [hS, ByteArray.size_extract]; omega
                rw [← hS] at HG
                have HSS := Lib.hid hSs
                have HSQ := Lib.hid hS
                have t6 : ((lenAll (l.take k) : Nat) : Int) < c := by omega
                clear hS hSs hx
                go_wp2_with fail
                rw [← HSQ.out]
                refine (getTags_any S HSS.out _).mono ?_
                rintro e w7 ⟨v7, rfl, ht7, hu7⟩
                rw [HG.out] at ht7
                rw [HG.out]
                obtain ⟨ao7, cap7, rfl, -, -, -⟩ := id ht7
                have HU7 := Lib.hid (HU6.out.trans hu7)
                clear ht7 hu7 HU6
                go_wp2_with fail
                refine (alive_any _).mono ?_
                rintro e w8 ⟨rfl, hu8⟩
                go_wp2_with fail
                go_ret
                exact ⟨rfl, HU7.out.trans hu8⟩
              · have hkc' : c = lenAll (l.take k) := by omega
                clear HX hx
                have HG : Hid (getTgs (s.extract 0 c) = (l.take k, 0)) := by
                  show _ = _
                  rw [HS.out, hkc']
                  exact cut_end l HALL.out H20.out k
                obtain ⟨S, hS⟩ : ∃ S, S = s.extract 0 c := ⟨_, rfl⟩
                have hSs : S.size ≤ 140737488355328 := by rw [hS, ByteArray.size_extract]; omega
                rw [← hS] at HG
                have HSS := Lib.hid hSs
                have HSQ := Lib.hid hS
                have t6 : ¬ ((lenAll (l.take k) : Nat) : Int) < c := by omega
                clear hS hSs hkc'
                go_wp2_with fail
                rw [← HSQ.out]
                refine (getTags_any S HSS.out _).mono ?_
                rintro e w7 ⟨v7, rfl, ht7, hu7⟩
                rw [HG.out] at ht7
                rw [HG.out]
                have HT7 := Lib.hid ht7
                have HU7 := Lib.hid (HU6.out.trans hu7)
                clear ht7 hu7 HU6
                go_wp2_with fail
                refine (alive_any _).mono ?_
                rintro e w8 ⟨rfl, hu8⟩
                have HT8 := Lib.hid (HT7.out.upd hu8)
                have HU8 := Lib.hid (HU7.out.trans hu8)
                clear hu8 HT7 HU7
                go_wp2_with fail
                refine (tgsSelf (l.take k) v7 _ _ HT8.out ((HL.out.upd HU8.out).take k (by have := HN.out; omega))).mono ?_
                rintro e w9 ⟨rfl, hu9⟩
                go_wp2_with fail
                go_ret
                exact ⟨rfl, HU8.out.trans hu9⟩
          · obtain rfl : k = n := by omega
            have hkc' : c = lenAll (l.take k) := by
              have h1 := HSZ.out
              have h2 : l.take k = l := List.take_of_length_le (by have := HN.out; omega)
              rw [h2] at hkc ⊢
              omega
            have HG : Hid (getTgs (s.extract 0 c) = (l.take k, 0)) := by
              show _ = _
              rw [HS.out, hkc']
              exact cut_end l HALL.out H20.out k
            obtain ⟨S, hS⟩ : ∃ S, S = s.extract 0 c := ⟨_, rfl⟩
            have hSs : S.size ≤ 140737488355328 := by rw [hS, ByteArray.size_extract]; omega
            rw [← hS] at HG
            have HSS := Lib.hid hSs
            have HSQ := Lib.hid hS
            have t6 : ¬ ((lenAll (l.take k) : Nat) : Int) < c := by omega
            clear hS hSs hkc'
            go_wp2_with fail
            rw [← HSQ.out]
            refine (getTags_any S HSS.out _).mono ?_
            rintro e w7 ⟨v7, rfl, ht7, hu7⟩
            rw [HG.out] at ht7
            rw [HG.out]
            have HT7 := Lib.hid ht7
            have HU7 := Lib.hid (HU6.out.trans hu7)
            clear ht7 hu7 HU6
            go_wp2_with fail
            refine (alive_any _).mono ?_
            rintro e w8 ⟨rfl, hu8⟩
            have HT8 := Lib.hid (HT7.out.upd hu8)
            have HU8 := Lib.hid (HU7.out.trans hu8)
            clear hu8 HT7 HU7
            go_wp2_with fail
            refine (tgsSelf (l.take k) v7 _ _ HT8.out ((HL.out.upd HU8.out).take k (by have := HN.out; omega))).mono ?_
            rintro e w9 ⟨rfl, hu9⟩
            go_wp2_with fail
            go_ret
            exact ⟨rfl, HU8.out.trans hu9⟩
    · have hg' : (g0 != 0) = true := by simpa using hg
      clear hg
      go_wp2_with fail
      refine (alive_any _).mono ?_
      rintro e w7 ⟨rfl, hu7⟩
      go_wp2_with fail
      go_ret
      exact ⟨rfl, HU6.out.trans hu7⟩
end Go.Proofs.Ytopgphbmlcophaa
