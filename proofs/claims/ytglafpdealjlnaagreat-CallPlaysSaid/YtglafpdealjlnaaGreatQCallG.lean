/- The walks of a call's handle. -/
import Derived.Test.YtglafpdealjlnaaGreatQCallF
namespace Go.Proofs.YtglafpdealjlnaaGreat
open Go.RowKit
set_option linter.unusedSimpArgs false
set_option linter.unusedVariables false
set_option maxRecDepth 100000

set_option maxHeartbeats 4000000 in
theorem handle_any (b : Nat) (k : K) (l : List Av) (kind does t s ns nr : Int) (v : Value) (w : World) (h : CallAt w b k) (hl : AvsAt w v l) (hs : ∀ a ∈ l, a.val.size ≤ maxLen) (hok : k.ok) (hlen : l.length ≤ 1000000)
    (hfar : ∀ W, Upd [b] w W → AvsAt W v l) :
    Calls Tryz.prog 187 #[.pointer (some ⟨b, 0, none⟩), .int .i64 kind, .int .i64 does, .agg #[.int .i64 t, .int .i64 s, .int .i64 ns, .int .i64 nr, v]] w (SaidEnd w b (k.handle kind does l)) := by
  have HC := Lib.hid h
  have HL := Lib.hid hl
  have HS := Lib.hid hs
  have HOK := Lib.hid hok
  obtain ⟨ao, cap, hv, hv1, hv2, -⟩ := id hl
  subst hv
  obtain ⟨nl, hnl⟩ : ∃ n, n = l.length := ⟨_, rfl⟩
  rw [← hnl] at hv1 hlen
  simp only [← hnl] at HL ⊢
  have HNL := Lib.hid hnl
  have HLS : Hid (AvsAt ((w.setCell ⟨b, 5, none⟩ (.int .i64 3)).alloc (.cells #[.int .i64 t, .int .i64 s, .int .i64 ns, .int .i64 nr, (.slice ao nl cap)] 24)) (.slice ao nl cap) l) := by
    have h := hfar ((w.setCell ⟨b, 5, none⟩ (.int .i64 3)).alloc (.cells #[.int .i64 t, .int .i64 s, .int .i64 ns, .int .i64 nr, (.slice ao nl cap)] 24)) (((Upd.refl [b] w).setCell (p := ⟨b, 5, none⟩) _ (.inl (by simp))).alloc _)
    rw [← HNL.out] at h
    exact h
  obtain ⟨vw, vg, hb⟩ := h.cells_
  have g5 := hb.cell 5
  have g8 := hb.cell 8
  have g9 := hb.cell 9
  have fz := hb.frozen
  have hlt := hb.lt
  simp [K.cells] at g5 g8 g9
  clear hb h hl hs hok hnl hv1 hv2
  by_cases t0 : k.state = 0
  · have HG : Hid (k.handle kind does l = k.named l) := by show _ = _; unfold K.handle; rw [if_pos (.inl t0)]
    have HT := Lib.hid t0
    rw [t0] at g5
    go_enter Tryz.func187, Tryz.ntmps187
    clear t0 g8 g9 fz
    go_wp2_with fail
    refine (named_any b k l t s ns nr _ _ (HC.out.upd ((Upd.refl [] w).alloc _)) (HL.out.upd ((Upd.refl [] w).alloc _)) HS.out HOK.out (.inl HT.out)).mono ?_
    rintro e w3 ⟨v3, own3, rfl, h1, h2, h3⟩
    have HX3 := Lib.hid (And.intro (h1.low ((Upd.refl [b] w).alloc _).size) (And.intro h2 (((Upd.refl [b] w).alloc (.cells #[.int .i64 t, .int .i64 s, .int .i64 ns, .int .i64 nr, (.slice ao nl cap)] 24)).trans h3)))
    clear h1 h2 h3 g5
    go_wp2_with fail
    go_ret
    rw [HG.out]
    exact ⟨⟨_, own3, rfl, HX3.out⟩⟩
  have tb0 : (k.state == 0) = false := by simpa using t0
  by_cases t1 : k.state = 1
  · have HT := Lib.hid t1
    by_cases td : does = 2
    · have HG : Hid (k.handle kind does l = k.named l) := by show _ = _; unfold K.handle; rw [if_pos (.inr ⟨t1, td⟩)]
      subst td
      rw [t1] at g5
      go_enter Tryz.func187, Tryz.ntmps187
      clear t0 t1 tb0 g8 g9 fz
      go_wp2_with fail
      refine (named_any b k l t s ns nr _ _ (HC.out.upd ((Upd.refl [] w).alloc _)) (HL.out.upd ((Upd.refl [] w).alloc _)) HS.out HOK.out (.inr HT.out)).mono ?_
      rintro e w3 ⟨v3, own3, rfl, h1, h2, h3⟩
      have HX3 := Lib.hid (And.intro (h1.low ((Upd.refl [b] w).alloc _).size) (And.intro h2 (((Upd.refl [b] w).alloc (.cells #[.int .i64 t, .int .i64 s, .int .i64 ns, .int .i64 nr, (.slice ao nl cap)] 24)).trans h3)))
      clear h1 h2 h3 g5
      go_wp2_with fail
      go_ret
      rw [HG.out]
      exact ⟨⟨_, own3, rfl, HX3.out⟩⟩
    · have tdb : (does == 2) = false := by simpa using td
      have HG : Hid (k.handle kind does l = (k, [])) := by show _ = _; unfold K.handle; rw [if_neg (by simp [t0, t1, td]), if_neg (by simp [t1]), if_neg (by simp [t1]), if_neg (by simp [t1])]
      rw [t1] at g5
      go_enter Tryz.func187, Tryz.ntmps187
      clear t0 t1 tb0 td g8 g9 fz HT
      go_wp2_with fail
      go_ret
      rw [HG.out]
      exact ⟨⟨_, [], rfl, SaysN.nil _ _, HC.out.upd ((Upd.refl [] w).alloc _), (Upd.refl [b] w).alloc _⟩⟩
  have tb1 : (k.state == 1) = false := by simpa using t1
  by_cases t2 : k.state = 2
  · by_cases td : does = 3
    · have HG : Hid (k.handle kind does l = ({ k with state := 3, got := l }, [])) := by show _ = _; unfold K.handle; rw [if_neg (by simp [t0, t1]), if_pos ⟨t2, td⟩]
      subst td
      have HK : Hid (CallAt ((w.setCell ⟨b, 5, none⟩ (.int .i64 3)).alloc (.cells #[.int .i64 t, .int .i64 s, .int .i64 ns, .int .i64 nr, (.slice ao nl cap)] 24)) b { k with state := 3 }) := (HC.out.set 5 (.int .i64 3) (k' := { k with state := 3 }) (fun _ _ => rfl) rfl rfl).upd ((Upd.refl [] _).alloc _)
      have HB5 : Hid (∃ cs, Blk (w.alloc (.cells #[.int .i64 t, .int .i64 s, .int .i64 ns, .int .i64 nr, (.slice ao nl cap)] 24)) b 193 cs) := by obtain ⟨vw, vg, hb⟩ := HC.out.cells_; exact ⟨_, hb.alloc _⟩
      rw [t2] at g5
      go_enter Tryz.func187, Tryz.ntmps187
      clear t0 t1 t2 tb0 tb1 g8 g9
      go_wp2_with fail
      refine (cloneAvs_any l _ _ HLS.out (by rw [← HNL.out]; exact hlen)).mono ?_
      rintro e w3 ⟨u, ou, rfl, ho, hf, hu3⟩
      have HO := Lib.hid ho
      obtain ⟨ao3, cap3, rfl, -, -⟩ := ho.shape
      rw [← HNL.out] at HO
      rw [← HNL.out]
      have HK3 := Lib.hid (HK.out.upd hu3)
      have HU3 : Hid (Upd [b] w w3) := (((Upd.refl [b] w).setCell (.int .i64 3) (p := ⟨b, 5, none⟩) (.inl (by simp))).alloc _).trans (hu3.mono (by simp))
      obtain ⟨vw3, vg3, ow3, og3, hb3, how3, hog3⟩ := HK3.out
      have g7 := hb3.cell 7
      have f7 := hb3.frozen 7
      have lt3 := hb3.lt
      simp [K.cells] at g7
      have HX3 := Lib.hid (And.intro hb3 how3)
      clear hb3 how3 hog3 ho hf hu3 fz g5
      go_wp2_with fail
      go_ret
      rw [HG.out]
      refine ⟨⟨_, [], rfl, SaysN.nil _ _, ⟨vw3, .slice ao3 nl cap3, ow3, ou, Blk.of_eq (HX3.out.1.set_ 7 _) rfl, HX3.out.2.setCell _ (HX3.out.2.ne_blk HX3.out.1 (by decide)), ?_⟩, HU3.out.setCell _ (.inl (by simp))⟩⟩
      have h := HO.out.setCell (p := ⟨b, 7, none⟩) (.slice ao3 nl cap3) (HO.out.ne_blk HX3.out.1 (by decide))
      rw [HNL.out] at h
      rw [HNL.out]
      exact h
    · have tdb : (does == 3) = false := by simpa using td
      have HG : Hid (k.handle kind does l = (k, [])) := by show _ = _; unfold K.handle; rw [if_neg (by simp [t0, t1]), if_neg (by simp [td]), if_neg (by simp [t2]), if_neg (by simp [t2])]
      rw [t2] at g5
      go_enter Tryz.func187, Tryz.ntmps187
      clear t0 t1 t2 tb0 tb1 td g8 g9 fz
      go_wp2_with fail
      go_ret
      rw [HG.out]
      exact ⟨⟨_, [], rfl, SaysN.nil _ _, HC.out.upd ((Upd.refl [] w).alloc _), (Upd.refl [b] w).alloc _⟩⟩
  have tb2 : (k.state == 2) = false := by simpa using t2
  by_cases t3 : k.state = 3
  · by_cases tk : kind = 15
    · have HG : Hid (k.handle kind does l = ({ k with wens := min (k.wens + 1) 2147483647 }, [])) := by show _ = _; unfold K.handle; rw [if_neg (by simp [t0, t1]), if_neg (by simp [t2]), if_pos ⟨t3, tk⟩]
      subst tk
      obtain ⟨n, hn⟩ : ∃ n, n = k.wens := ⟨_, rfl⟩
      have hn1 : 0 ≤ n ∧ n ≤ 2147483647 := by rw [hn]; exact ⟨HOK.out.w1, HOK.out.w2⟩
      rw [← hn] at g8
      obtain ⟨hn1, hn2⟩ := hn1
      by_cases hm : n + 1 ≤ 2147483647
      · have HK : Hid (CallAt ((w.setCell ⟨b, 8, none⟩ (.int .i64 (n + 1))).alloc (.cells #[.int .i64 t, .int .i64 s, .int .i64 ns, .int .i64 nr, (.slice ao nl cap)] 24)) b { k with wens := min (k.wens + 1) 2147483647 }) := (HC.out.set 8 (.int .i64 (n + 1)) (k' := { k with wens := min (k.wens + 1) 2147483647 }) (fun vw vg => by simp [K.cells]; omega) rfl rfl).upd ((Upd.refl [] _).alloc _)
        clear hn
        rw [t3] at g5
        go_enter Tryz.func187, Tryz.ntmps187
        clear t0 t1 t2 t3 tb0 tb1 tb2
        go_wp2_with fail
        go_ret
        rw [HG.out]
        exact ⟨⟨_, [], rfl, SaysN.nil _ _, HK.out, ((Upd.refl [b] w).setCell (p := ⟨b, 8, none⟩) _ (.inl (by simp))).alloc _⟩⟩
      · have HK : Hid (CallAt ((w.setCell ⟨b, 8, none⟩ (.int .i64 2147483647)).alloc (.cells #[.int .i64 t, .int .i64 s, .int .i64 ns, .int .i64 nr, (.slice ao nl cap)] 24)) b { k with wens := min (k.wens + 1) 2147483647 }) := (HC.out.set 8 (.int .i64 2147483647) (k' := { k with wens := min (k.wens + 1) 2147483647 }) (fun vw vg => by simp [K.cells]; omega) rfl rfl).upd ((Upd.refl [] _).alloc _)
        clear hn
        obtain rfl : n = 2147483647 := by omega
        clear hm
        rw [t3] at g5
        go_enter Tryz.func187, Tryz.ntmps187
        clear t0 t1 t2 t3 tb0 tb1 tb2
        go_wp2_with fail
        go_ret
        rw [HG.out]
        exact ⟨⟨_, [], rfl, SaysN.nil _ _, HK.out, ((Upd.refl [b] w).setCell (p := ⟨b, 8, none⟩) _ (.inl (by simp))).alloc _⟩⟩
    have tkb : (kind == 15) = false := by simpa using tk
    have tk15 := tk
    by_cases tk : kind = 16
    · have HG : Hid (k.handle kind does l = ({ k with slis := min (k.slis + 1) 2147483647 }, [])) := by show _ = _; unfold K.handle; rw [if_neg (by simp [t0, t1]), if_neg (by simp [t2]), if_neg (by simp [tk]), if_pos ⟨t3, tk⟩]
      subst tk
      obtain ⟨n, hn⟩ : ∃ n, n = k.slis := ⟨_, rfl⟩
      have hn1 : 0 ≤ n ∧ n ≤ 2147483647 := by rw [hn]; exact ⟨HOK.out.s1, HOK.out.s2⟩
      rw [← hn] at g9
      obtain ⟨hn1, hn2⟩ := hn1
      by_cases hm : n + 1 ≤ 2147483647
      · have HK : Hid (CallAt ((w.setCell ⟨b, 9, none⟩ (.int .i64 (n + 1))).alloc (.cells #[.int .i64 t, .int .i64 s, .int .i64 ns, .int .i64 nr, (.slice ao nl cap)] 24)) b { k with slis := min (k.slis + 1) 2147483647 }) := (HC.out.set 9 (.int .i64 (n + 1)) (k' := { k with slis := min (k.slis + 1) 2147483647 }) (fun vw vg => by simp [K.cells]; omega) rfl rfl).upd ((Upd.refl [] _).alloc _)
        clear hn
        rw [t3] at g5
        go_enter Tryz.func187, Tryz.ntmps187
        clear t0 t1 t2 t3 tb0 tb1 tb2
        go_wp2_with fail
        go_ret
        rw [HG.out]
        exact ⟨⟨_, [], rfl, SaysN.nil _ _, HK.out, ((Upd.refl [b] w).setCell (p := ⟨b, 9, none⟩) _ (.inl (by simp))).alloc _⟩⟩
      · have HK : Hid (CallAt ((w.setCell ⟨b, 9, none⟩ (.int .i64 2147483647)).alloc (.cells #[.int .i64 t, .int .i64 s, .int .i64 ns, .int .i64 nr, (.slice ao nl cap)] 24)) b { k with slis := min (k.slis + 1) 2147483647 }) := (HC.out.set 9 (.int .i64 2147483647) (k' := { k with slis := min (k.slis + 1) 2147483647 }) (fun vw vg => by simp [K.cells]; omega) rfl rfl).upd ((Upd.refl [] _).alloc _)
        clear hn
        obtain rfl : n = 2147483647 := by omega
        clear hm
        rw [t3] at g5
        go_enter Tryz.func187, Tryz.ntmps187
        clear t0 t1 t2 t3 tb0 tb1 tb2
        go_wp2_with fail
        go_ret
        rw [HG.out]
        exact ⟨⟨_, [], rfl, SaysN.nil _ _, HK.out, ((Upd.refl [b] w).setCell (p := ⟨b, 9, none⟩) _ (.inl (by simp))).alloc _⟩⟩
    have tkb2 : (kind == 16) = false := by simpa using tk
    have HG : Hid (k.handle kind does l = (k, [])) := by show _ = _; unfold K.handle; rw [if_neg (by simp [t0, t1]), if_neg (by simp [t2]), if_neg (by simp [tk15]), if_neg (by simp [tk])]
    rw [t3] at g5
    go_enter Tryz.func187, Tryz.ntmps187
    clear t0 t1 t2 t3 tb0 tb1 tb2 tk tk15 g8 g9 fz
    go_wp2_with fail
    go_ret
    rw [HG.out]
    exact ⟨⟨_, [], rfl, SaysN.nil _ _, HC.out.upd ((Upd.refl [] w).alloc _), (Upd.refl [b] w).alloc _⟩⟩
  have tb3 : (k.state == 3) = false := by simpa using t3
  have HG : Hid (k.handle kind does l = (k, [])) := by show _ = _; unfold K.handle; rw [if_neg (by simp [t0, t1]), if_neg (by simp [t2]), if_neg (by simp [t3]), if_neg (by simp [t3])]
  go_enter Tryz.func187, Tryz.ntmps187
  clear t0 t1 t2 t3 g8 g9 fz
  go_wp2_with fail
  go_ret
  rw [HG.out]
  exact ⟨⟨_, [], rfl, SaysN.nil _ _, HC.out.upd ((Upd.refl [] w).alloc _), (Upd.refl [b] w).alloc _⟩⟩
end Go.Proofs.YtglafpdealjlnaaGreat
