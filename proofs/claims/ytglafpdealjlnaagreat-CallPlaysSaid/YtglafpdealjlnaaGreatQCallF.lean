/- The walk of a call's named. -/
import Derived.Test.YtglafpdealjlnaaGreatQCallE
namespace Go.Proofs.YtglafpdealjlnaaGreat
open Go.RowKit
set_option linter.unusedSimpArgs false
set_option linter.unusedVariables false
set_option maxRecDepth 100000

theorem info_say : (Tryz.prog.info? 191).map (fun i => (i.zero, i.size, i.bytes)) = some (some (.agg #[.int .i64 0, .slice none 0 0]), 2, 32) := by kernel_rfl
set_option maxHeartbeats 8000000 in
theorem named_any (b : Nat) (k : K) (l : List Av) (t s ns nr : Int) (v : Value) (w : World) (h : CallAt w b k) (hl : AvsAt w v l) (hs : ∀ a ∈ l, a.val.size ≤ maxLen) (hok : k.ok) (hst : k.state = 0 ∨ k.state = 1) :
    Calls Tryz.prog 277 #[.pointer (some ⟨b, 0, none⟩), .agg #[.int .i64 t, .int .i64 s, .int .i64 ns, .int .i64 nr, v]] w (SaidEnd w b (k.named l)) := by
  obtain ⟨x2, hx2⟩ : ∃ x, be 2 k.id = x := ⟨_, rfl⟩
  have HX2 : Hid (be 2 (k.named1 l).id = x2) := hx2
  have HE2 : Hid (k.own = ⟨true, false, 0, 14, x2⟩) := by rw [← hx2]; rfl
  obtain ⟨j0, hj0, jz0, jz1, jz2⟩ := info_parts info_say
  have HWL : Hid (({ k.named1 l with state := 3 } : K).with_.length ≤ 1000) := hok.h
  have HC := Lib.hid h
  have HL := Lib.hid hl
  have HS := Lib.hid hs
  have hs01 : k.state = 0 ∨ k.state = 1 := hst
  obtain ⟨vw, vg, hb⟩ := h.cells_
  have g5 := hb.cell 5
  have hlt := hb.lt
  simp [K.cells] at g5
  clear hb h hl hs hx2 hok hst
  obtain ⟨p, hp⟩ : ∃ p, p = (numberAv l 14).1 := ⟨_, rfl⟩
  have hp2 : (k.named1 l).peer = p := by rw [hp]; rfl
  obtain ⟨pb, hpb⟩ : ∃ p, p = (numberAv l 14).2 := ⟨_, rfl⟩
  have HNUM : Hid (∀ W, AvsAt W v l → Calls Tryz.prog 312 #[v, .int .i64 14] W fun e w' => e = .returned (.tuple #[.int .i64 p, .bool pb]) ∧ Upd [] W w') := by
    intro W hW
    rw [hp, hpb]
    exact number_any l v 14 W hW HS.out
  have HP2 := Lib.hid hp2
  clear hp hpb hp2
  by_cases p0 : p = 0
  · have HG : Hid (k.named l = (k.named1 l).fin 3) := by show _ = _; unfold K.named; rw [if_pos (by rw [HP2.out]; exact p0)]
    by_cases t0 : k.state = 0
    · have HT0 := Lib.hid t0
      rw [t0] at g5
      clear t0 hs01
      subst p0
      go_enter Tryz.func277, Tryz.ntmps277
      go_wp2_with fail
      refine (HNUM.out _ (HL.out.upd ((Upd.refl [] w).alloc _))).mono ?_
      rintro e w1 ⟨rfl, hu1⟩
      have HC1 := Lib.hid (HC.out.upd (((Upd.refl [] w).alloc _).trans hu1))
      have HU1 : Hid (Upd [b] w w1) := (((Upd.refl [] w).alloc _).trans hu1).mono (by simp)
      clear hu1 g5
      obtain ⟨vwp, vgp, hbp⟩ := HC1.out.cells_
      have g2_p := hbp.cell 2
      have g3_p := hbp.cell 3
      have g5_p := hbp.cell 5
      have fzp := hbp.frozen
      have ltp := hbp.lt
      simp [K.cells, K.named1] at g2_p g3_p g5_p
      clear hbp
      have HK2 : Hid (CallAt (w1.setCell ⟨b, 2, none⟩ (.int .i64 0)) b (k.named1 l)) := HC1.out.set 2 _ (fun vw vg => by have := HP2.out; simp only [K.cells, K.named1] at *; rw [← this]; rfl) rfl rfl
      have HU2 : Hid (Upd [b] w (w1.setCell ⟨b, 2, none⟩ (.int .i64 0))) := HU1.out.setCell _ (.inl (by simp))
      go_wp2_with fail
      refine (end_any b _ 3 _ HK2.out).mono ?_
      rintro e w3 ⟨v3, own3, rfl, h1, h2, h3⟩
      have HX3 := Lib.hid (And.intro (h1.low HU2.out.size) (And.intro h2 (HU2.out.trans h3)))
      clear h1 h2 h3 g2_p g3_p g5_p fzp ltp
      go_wp2_with fail
      go_ret
      rw [HG.out]
      exact ⟨⟨_, own3, rfl, HX3.out⟩⟩
    · have t1 : k.state = 1 := by omega
      rw [t1] at g5
      have HT0 := Lib.hid t0
      clear t0 t1 hs01
      subst p0
      go_enter Tryz.func277, Tryz.ntmps277
      go_wp2_with fail
      refine (HNUM.out _ (HL.out.upd ((Upd.refl [] w).alloc _))).mono ?_
      rintro e w1 ⟨rfl, hu1⟩
      have HC1 := Lib.hid (HC.out.upd (((Upd.refl [] w).alloc _).trans hu1))
      have HU1 : Hid (Upd [b] w w1) := (((Upd.refl [] w).alloc _).trans hu1).mono (by simp)
      clear hu1 g5
      obtain ⟨vwp, vgp, hbp⟩ := HC1.out.cells_
      have g2_p := hbp.cell 2
      have g3_p := hbp.cell 3
      have g5_p := hbp.cell 5
      have fzp := hbp.frozen
      have ltp := hbp.lt
      simp [K.cells, K.named1] at g2_p g3_p g5_p
      clear hbp
      have HK2 : Hid (CallAt (w1.setCell ⟨b, 2, none⟩ (.int .i64 0)) b (k.named1 l)) := HC1.out.set 2 _ (fun vw vg => by have := HP2.out; simp only [K.cells, K.named1] at *; rw [← this]; rfl) rfl rfl
      have HU2 : Hid (Upd [b] w (w1.setCell ⟨b, 2, none⟩ (.int .i64 0))) := HU1.out.setCell _ (.inl (by simp))
      go_wp2_with fail
      refine (end_any b _ 3 _ HK2.out).mono ?_
      rintro e w3 ⟨v3, own3, rfl, h1, h2, h3⟩
      have HX3 := Lib.hid (And.intro (h1.low HU2.out.size) (And.intro h2 (HU2.out.trans h3)))
      clear h1 h2 h3 g2_p g3_p g5_p fzp ltp
      go_wp2_with fail
      go_ret
      rw [HG.out]
      exact ⟨⟨_, own3, rfl, HX3.out⟩⟩
  have tb : (p == 0) = false := by simpa using p0
  have HP0 := Lib.hid p0
  clear p0
  by_cases t0 : k.state = 0
  · have HT0 := Lib.hid t0
    have g5z := g5
    rw [t0] at g5
    by_cases tq : k.out = true
    · have to2 : k.out = true := by simpa using tq
      have HG : Hid (k.named l = ({ k.named1 l with state := 3 }, [(k.named1 l).say (kindFor true 2) [k.own]] ++ [(k.named1 l).conn])) := by
        show _ = _
        unfold K.named
        have e1 := HT0.out
        rw [if_neg (by rw [HP2.out]; exact HP0.out), to2]
        simp [e1]
      clear hs01
      have tq := to2
      clear to2
      go_enter Tryz.func277, Tryz.ntmps277
      go_wp2_with fail
      refine (HNUM.out _ (HL.out.upd ((Upd.refl [] w).alloc _))).mono ?_
      rintro e w1 ⟨rfl, hu1⟩
      have HC1 := Lib.hid (HC.out.upd (((Upd.refl [] w).alloc _).trans hu1))
      have HU1 : Hid (Upd [b] w w1) := (((Upd.refl [] w).alloc _).trans hu1).mono (by simp)
      clear hu1 g5
      obtain ⟨vwp, vgp, hbp⟩ := HC1.out.cells_
      have g2_p := hbp.cell 2
      have g3_p := hbp.cell 3
      have g5_p := hbp.cell 5
      have fzp := hbp.frozen
      have ltp := hbp.lt
      simp [K.cells, K.named1] at g2_p g3_p g5_p
      clear hbp
      have HK2 : Hid (CallAt (w1.setCell ⟨b, 2, none⟩ (.int .i64 p)) b (k.named1 l)) := HC1.out.set 2 _ (fun vw vg => by have := HP2.out; simp only [K.cells, K.named1] at *; rw [← this]; rfl) rfl rfl
      have HU2 : Hid (Upd [b] w (w1.setCell ⟨b, 2, none⟩ (.int .i64 p))) := HU1.out.setCell _ (.inl (by simp))
      rw [t0] at g5_p
      rw [tq] at g3_p
      go_wp2_with fail
      refine (kind_for b _ 2 _ HK2.out).mono ?_
      rintro e w3 ⟨rfl, hu3⟩
      rw [show (k.named1 l).out = true from tq]
      have HK3 := Lib.hid (HK2.out.upd hu3)
      have HU3 : Hid (Upd [b] w w3) := HU2.out.trans (hu3.mono (by simp))
      clear hu3 g2_p g3_p g5_p fzp ltp
      go_wp2_with fail
      refine (HK3.out.own_num HX2.out).mono ?_
      rintro e w4 ⟨rfl, hu4⟩
      have HK4 := Lib.hid (HK3.out.upd (hu4.alloc (.cells #[.bool true, .bool false, .int .i64 0, .int .i64 14, .string x2] 85)))
      have HU4 : Hid (Upd [b] w (w4.alloc (.cells #[.bool true, .bool false, .int .i64 0, .int .i64 14, .string x2] 85))) := HU3.out.trans ((hu4.alloc _).mono (by simp))
      have HA := Lib.hid (avs_one w4 ⟨true, false, 0, 14, x2⟩)
      clear hu4
      go_wp2_with fail
      refine (say_any b _ _ _ _ _ HK4.out HA.out (by simp)).mono ?_
      rintro e w5 ⟨u, ou, rfl, ho, hu5, hf5⟩
      obtain ⟨ao, cap, rfl, -, -⟩ := ho.shape
      have HF5 : Hid (∀ x ∈ ou, w.heap.size ≤ x) := fun x hx => Nat.le_trans HU4.out.size (hf5 x hx)
      have HO := Lib.hid (ho.alloc (.cells #[.int .i64 p, .slice ao 2 cap] 191))
      have HK5 := Lib.hid (HK4.out.upd (hu5.alloc (.cells #[.int .i64 p, .slice ao 2 cap] 191)))
      have HU5 : Hid (Upd [b] w (w5.alloc (.cells #[.int .i64 p, .slice ao 2 cap] 191))) := HU4.out.trans ((hu5.alloc _).mono (by simp))
      have HR : Hid (Rd (w5.alloc (.cells #[.int .i64 p, .slice ao 2 cap] 191)) 2 (.slice (some ⟨w5.heap.size, 0, none⟩) 1 1) 1 [.int .i64 p, .slice ao 2 cap]) := Own.rd' (own := [w5.heap.size]) (e := 191) ⟨rfl, .inr ⟨w5.heap.size, 0, 1, _, rfl, rfl, Blk.new _ _ _, Nat.le_refl _, by simp [maxLen], by simp, rfl⟩⟩ (by simp [Value.oneCell'])
      simp only [List.length_cons, List.length_nil, show (k.named1 l).peer = p from HP2.out] at HO ⊢
      clear ho hu5 hf5
      go_wp2_with (first
        | (at_builtin; refine wpList_append_Rd _ rfl (.tmp 29) (.tmp 37) 81 rfl 191 j0 _ 2 32 Tryz.underlying81 hj0 jz0 jz1 jz2 rfl (by decide) _ 0 [] [] (by simp [Act.eval]) (Own.nil _ _ _) _ 1 _ (by simp [Act.eval]) HR.out (by simp only [maxLen]; omega) (by omega) ?_; intro ao1 cap1 w6 own1 ho1 hin1 hu6; have HS1 := Lib.hid ho1; have HK6 := Lib.hid (HK5.out.upd hu6); have HU6 : Hid (Upd [b] w w6) := (HU5.out.trans (hu6.mono (by simp))); have HO6 := Lib.hid (HO.out.upd hu6 (by simp)); have HF1 : Hid (∀ k ∈ own1, w.heap.size ≤ k) := (fun k hk => by have h1 := HU5.out.size; have h2 := (hin1 k hk).resolve_left (by simp); omega); clear ho1 hin1 hu6; obtain ⟨vw, vg, hb⟩ := HK6.out.cells_; have g5 := hb.cell 5; have f5 := hb.frozen 5; have g3 := hb.cell 3; have hlt6 := hb.lt; simp [K.cells, K.named1] at g5 g3; rw [t0] at g5; rw [tq] at g3; clear hb))
      have HK7 : Hid (CallAt ((w6.setCell ⟨b, 5, none⟩ (.int .i64 2)).setCell ⟨b, 5, none⟩ (.int .i64 3)) b { k.named1 l with state := 3 }) := by
        have h := (HK6.out.set 5 (.int .i64 2) (k' := { k.named1 l with state := 2 }) (fun _ _ => rfl) rfl rfl).set 5 (.int .i64 3) (k' := { k.named1 l with state := 3 }) (fun _ _ => rfl) rfl rfl
        exact h
      have HU7 : Hid (Upd [b] w ((w6.setCell ⟨b, 5, none⟩ (.int .i64 2)).setCell ⟨b, 5, none⟩ (.int .i64 3))) := (HU6.out.setCell _ (.inl (by simp))).setCell _ (.inl (by simp))
      refine (conn_any b _ _ HK7.out HWL.out).mono ?_
      rintro e w8 ⟨u8, ou8, rfl, ho8, hu8, hf8⟩
      obtain ⟨ao8, cap8, rfl, -, -⟩ := ho8.shape
      obtain ⟨n8, hn8⟩ : ∃ n, n = (({ k.named1 l with state := 3 } : K).conn.2).length := ⟨_, rfl⟩
      rw [← hn8] at ho8
      rw [← hn8]
      have HN8 := Lib.hid hn8
      clear hn8
      rw [show ({ k.named1 l with state := 3 } : K).peer = p from HP2.out]
      have HO8 := Lib.hid (ho8.alloc (.cells #[.int .i64 p, .slice ao8 n8 cap8] 191))
      have HK8 := Lib.hid (HK7.out.upd (hu8.alloc (.cells #[.int .i64 p, .slice ao8 n8 cap8] 191)))
      have HU8 : Hid (Upd [b] w (w8.alloc (.cells #[.int .i64 p, .slice ao8 n8 cap8] 191))) := HU7.out.trans ((hu8.alloc _).mono (by simp))
      have HR8 : Hid (Rd (w8.alloc (.cells #[.int .i64 p, .slice ao8 n8 cap8] 191)) 2 (.slice (some ⟨w8.heap.size, 0, none⟩) 1 1) 1 [.int .i64 p, .slice ao8 n8 cap8]) := Own.rd' (own := [w8.heap.size]) (e := 191) ⟨rfl, .inr ⟨w8.heap.size, 0, 1, _, rfl, rfl, Blk.new _ _ _, Nat.le_refl _, by simp [maxLen], by simp, rfl⟩⟩ (by simp [Value.oneCell'])
      have HB6 : Hid (∃ cs, Blk w6 b 193 cs) := by obtain ⟨vw, vg, hb⟩ := HK6.out.cells_; exact ⟨_, hb⟩
      have HS8 : Hid (Own (w8.alloc (.cells #[.int .i64 p, .slice ao8 n8 cap8] 191)) 191 2 (.slice ao1 (0 + 1) cap1) (0 + 1) ([] ++ [.int .i64 p, .slice ao 2 cap]) own1) := by
        obtain ⟨cs, hb⟩ := HB6.out
        have hne := HS1.out.ne_blk hb (by decide)
        exact ((((HS1.out.setCell _ hne).setCell _ hne).upd hu8 (by simp)).alloc _)
      have HO9 : Hid (Own (w8.alloc (.cells #[.int .i64 p, .slice ao8 n8 cap8] 191)) 85 5 (.slice ao 2 cap) 2 (avCells (numAv 0 (kindFor true 2) 2 :: [⟨true, false, 0, 14, x2⟩])) ou) := by
        obtain ⟨cs, hb⟩ := HB6.out
        have hne := HO6.out.ne_blk hb (by decide)
        exact ((((HO6.out.setCell _ hne).setCell _ hne).upd hu8 (by simp)).alloc _)
      have HF8 : Hid (∀ x ∈ ou8, w.heap.size ≤ x ∧ w6.heap.size ≤ x) := fun x hx => ⟨Nat.le_trans HU7.out.size (hf8 x hx), Nat.le_trans (((Upd.refl [b] w6).setCell (p := ⟨b, 5, none⟩) (.int .i64 2) (.inl (by simp))).setCell (p := ⟨b, 5, none⟩) (.int .i64 3) (.inl (by simp))).size (hf8 x hx)⟩
      have HD8 : Hid (∀ x ∈ ou, x ∉ ou8) := fun x hx hx8 => by have := HO6.out.lt x hx; have := (HF8.out x hx8).2; omega
      clear ho8 hu8 hf8 HO6 HS1 g5 f5 g3 hlt6
      go_wp2_with (first
        | (at_builtin; refine wpList_append_Rd _ rfl (.tmp 51) (.tmp 54) 81 rfl 191 j0 _ 2 32 Tryz.underlying81 hj0 jz0 jz1 jz2 rfl (by decide) _ (0 + 1) _ _ (by simp [Act.eval]) HS8.out _ 1 _ (by simp [Act.eval]) HR8.out (by simp only [maxLen]; omega) (by omega) ?_; intro ao9 cap9 w9 own9 ho9 hin9 hu9; have HS9 := Lib.hid ho9; have HU9 := Lib.hid hu9; have HF9 : Hid (∀ x ∈ own9, w.heap.size ≤ x) := (fun x hx => (hin9 x hx).elim (HF1.out x) (fun h => Nat.le_trans HU8.out.size h)); clear ho9 hin9 hu9))
      go_ret
      rw [HG.out]
      have hb8 := HK8.out.cells_
      obtain ⟨vwx, vgx, hbx⟩ := hb8
      have hno : b ∉ own1 := HS8.out.ne_blk hbx (by decide)
      refine ⟨⟨_, own9, rfl, ⟨[.slice ao 2 cap, .slice ao8 n8 cap8], fun i => if i = 0 then ou else ou8, rfl, by simpa [sayCells, K.say, show (k.named1 l).conn.fst = p from HP2.out, show (k.named1 l).peer = p from HP2.out] using HS9.out, HF9.out, ?_, ?_⟩, ?_, ?_⟩⟩
      · intro i q x hi hx
        match i with
        | 0 =>
          simp at hi hx; subst hi hx
          refine ⟨?_, HF5.out⟩
          have h := HO9.out.upd HU9.out (HO9.out.ne_own HS8.out (by decide))
          have e1 : k.own = ⟨true, false, 0, 14, x2⟩ := HE2.out
          simp only [K.say, e1, List.length_cons, List.length_nil]
          exact h
        | 1 =>
          simp at hi hx; subst hi hx
          refine ⟨?_, fun x hx => (HF8.out x hx).1⟩
          have h := HO8.out.upd HU9.out (HO8.out.ne_own HS8.out (by decide))
          have e8 : n8 = (k.named1 l).conn.2.length := HN8.out
          rw [← e8]
          exact h
        | i + 2 => simp at hi
      · intro i j hi hj hij x hx hx2
        simp at hi hj
        have hc : (i = 0 ∧ j = 1) ∨ (i = 1 ∧ j = 0) := by omega
        rcases hc with ⟨rfl, rfl⟩ | ⟨rfl, rfl⟩
        · exact HD8.out x (by simpa using hx) (by simpa using hx2)
        · exact HD8.out x (by simpa using hx2) (by simpa using hx)
      · obtain ⟨vw9, vg9, ow9, og9, j1, j2, j3⟩ := HK8.out
        exact ⟨vw9, vg9, ow9, og9, j1.upd HU9.out hno, j2.upd HU9.out (j2.ne_own HS8.out (by decide)), j3.upd HU9.out (j3.ne_own HS8.out (by decide))⟩
      · exact HU8.out.trans' HU9.out (fun x hx => .inr (HF1.out x hx))
    · have to2 : k.out = false := by simpa using tq
      have HG : Hid (k.named l = ({ k.named1 l with state := 2 }, [(k.named1 l).say (kindFor false 2) [k.own]])) := by
        show _ = _
        unfold K.named
        have e1 := HT0.out
        rw [if_neg (by rw [HP2.out]; exact HP0.out), to2]
        simp [e1]
      clear hs01
      have tq := to2
      clear to2
      go_enter Tryz.func277, Tryz.ntmps277
      go_wp2_with fail
      refine (HNUM.out _ (HL.out.upd ((Upd.refl [] w).alloc _))).mono ?_
      rintro e w1 ⟨rfl, hu1⟩
      have HC1 := Lib.hid (HC.out.upd (((Upd.refl [] w).alloc _).trans hu1))
      have HU1 : Hid (Upd [b] w w1) := (((Upd.refl [] w).alloc _).trans hu1).mono (by simp)
      clear hu1 g5
      obtain ⟨vwp, vgp, hbp⟩ := HC1.out.cells_
      have g2_p := hbp.cell 2
      have g3_p := hbp.cell 3
      have g5_p := hbp.cell 5
      have fzp := hbp.frozen
      have ltp := hbp.lt
      simp [K.cells, K.named1] at g2_p g3_p g5_p
      clear hbp
      have HK2 : Hid (CallAt (w1.setCell ⟨b, 2, none⟩ (.int .i64 p)) b (k.named1 l)) := HC1.out.set 2 _ (fun vw vg => by have := HP2.out; simp only [K.cells, K.named1] at *; rw [← this]; rfl) rfl rfl
      have HU2 : Hid (Upd [b] w (w1.setCell ⟨b, 2, none⟩ (.int .i64 p))) := HU1.out.setCell _ (.inl (by simp))
      rw [t0] at g5_p
      rw [tq] at g3_p
      go_wp2_with fail
      refine (kind_for b _ 2 _ HK2.out).mono ?_
      rintro e w3 ⟨rfl, hu3⟩
      rw [show (k.named1 l).out = false from tq]
      have HK3 := Lib.hid (HK2.out.upd hu3)
      have HU3 : Hid (Upd [b] w w3) := HU2.out.trans (hu3.mono (by simp))
      clear hu3 g2_p g3_p g5_p fzp ltp
      go_wp2_with fail
      refine (HK3.out.own_num HX2.out).mono ?_
      rintro e w4 ⟨rfl, hu4⟩
      have HK4 := Lib.hid (HK3.out.upd (hu4.alloc (.cells #[.bool true, .bool false, .int .i64 0, .int .i64 14, .string x2] 85)))
      have HU4 : Hid (Upd [b] w (w4.alloc (.cells #[.bool true, .bool false, .int .i64 0, .int .i64 14, .string x2] 85))) := HU3.out.trans ((hu4.alloc _).mono (by simp))
      have HA := Lib.hid (avs_one w4 ⟨true, false, 0, 14, x2⟩)
      clear hu4
      go_wp2_with fail
      refine (say_any b _ _ _ _ _ HK4.out HA.out (by simp)).mono ?_
      rintro e w5 ⟨u, ou, rfl, ho, hu5, hf5⟩
      obtain ⟨ao, cap, rfl, -, -⟩ := ho.shape
      have HF5 : Hid (∀ x ∈ ou, w.heap.size ≤ x) := fun x hx => Nat.le_trans HU4.out.size (hf5 x hx)
      have HO := Lib.hid (ho.alloc (.cells #[.int .i64 p, .slice ao 2 cap] 191))
      have HK5 := Lib.hid (HK4.out.upd (hu5.alloc (.cells #[.int .i64 p, .slice ao 2 cap] 191)))
      have HU5 : Hid (Upd [b] w (w5.alloc (.cells #[.int .i64 p, .slice ao 2 cap] 191))) := HU4.out.trans ((hu5.alloc _).mono (by simp))
      have HR : Hid (Rd (w5.alloc (.cells #[.int .i64 p, .slice ao 2 cap] 191)) 2 (.slice (some ⟨w5.heap.size, 0, none⟩) 1 1) 1 [.int .i64 p, .slice ao 2 cap]) := Own.rd' (own := [w5.heap.size]) (e := 191) ⟨rfl, .inr ⟨w5.heap.size, 0, 1, _, rfl, rfl, Blk.new _ _ _, Nat.le_refl _, by simp [maxLen], by simp, rfl⟩⟩ (by simp [Value.oneCell'])
      simp only [List.length_cons, List.length_nil, show (k.named1 l).peer = p from HP2.out] at HO ⊢
      clear ho hu5 hf5
      go_wp2_with (first
        | (at_builtin; refine wpList_append_Rd _ rfl (.tmp 29) (.tmp 37) 81 rfl 191 j0 _ 2 32 Tryz.underlying81 hj0 jz0 jz1 jz2 rfl (by decide) _ 0 [] [] (by simp [Act.eval]) (Own.nil _ _ _) _ 1 _ (by simp [Act.eval]) HR.out (by simp only [maxLen]; omega) (by omega) ?_; intro ao1 cap1 w6 own1 ho1 hin1 hu6; have HS1 := Lib.hid ho1; have HK6 := Lib.hid (HK5.out.upd hu6); have HU6 : Hid (Upd [b] w w6) := (HU5.out.trans (hu6.mono (by simp))); have HO6 := Lib.hid (HO.out.upd hu6 (by simp)); have HF1 : Hid (∀ k ∈ own1, w.heap.size ≤ k) := (fun k hk => by have h1 := HU5.out.size; have h2 := (hin1 k hk).resolve_left (by simp); omega); clear ho1 hin1 hu6; obtain ⟨vw, vg, hb⟩ := HK6.out.cells_; have g5 := hb.cell 5; have f5 := hb.frozen 5; have g3 := hb.cell 3; have hlt6 := hb.lt; simp [K.cells, K.named1] at g5 g3; rw [t0] at g5; rw [tq] at g3; clear hb))
      go_ret
      rw [HG.out]
      have hb6 := HK6.out.cells_
      obtain ⟨vwx, vgx, hbx⟩ := hb6
      refine ⟨⟨_, own1, rfl, ⟨[.slice ao 2 cap], fun _ => ou, rfl, ?_, HF1.out, ?_, fun i j hi hj hij => by simp at hi hj; omega⟩, HK6.out.set 5 (.int .i64 2) (fun _ _ => rfl) rfl rfl, HU6.out.setCell _ (.inl (by simp))⟩⟩
      · have h := HS1.out.setCell (p := ⟨b, 5, none⟩) (.int .i64 2) (HS1.out.ne_blk hbx (by decide))
        simpa [sayCells, K.say, show (k.named1 l).peer = p from HP2.out] using h
      · intro i q x hi hx
        match i with
        | 0 =>
          simp at hi hx; subst hi hx
          refine ⟨?_, HF5.out⟩
          have h := HO6.out.setCell (p := ⟨b, 5, none⟩) (.int .i64 2) (HO6.out.ne_blk hbx (by decide))
          have e1 : k.own = ⟨true, false, 0, 14, x2⟩ := HE2.out
          simp only [K.say, e1, List.length_cons, List.length_nil]
          exact h
        | i + 1 => simp at hi
  · have t1 : k.state = 1 := by omega
    rw [t1] at g5
    have HT0 := Lib.hid t0
    by_cases tq : k.out = true
    · have to2 : k.out = true := by simpa using tq
      have HG : Hid (k.named l = ({ k.named1 l with state := 2 }, [])) := by
        show _ = _
        unfold K.named
        have e1 := HT0.out
        rw [if_neg (by rw [HP2.out]; exact HP0.out), to2]
        simp [e1]
      clear hs01
      have tq := to2
      clear to2
      go_enter Tryz.func277, Tryz.ntmps277
      go_wp2_with fail
      refine (HNUM.out _ (HL.out.upd ((Upd.refl [] w).alloc _))).mono ?_
      rintro e w1 ⟨rfl, hu1⟩
      have HC1 := Lib.hid (HC.out.upd (((Upd.refl [] w).alloc _).trans hu1))
      have HU1 : Hid (Upd [b] w w1) := (((Upd.refl [] w).alloc _).trans hu1).mono (by simp)
      clear hu1 g5
      obtain ⟨vwp, vgp, hbp⟩ := HC1.out.cells_
      have g2_p := hbp.cell 2
      have g3_p := hbp.cell 3
      have g5_p := hbp.cell 5
      have fzp := hbp.frozen
      have ltp := hbp.lt
      simp [K.cells, K.named1] at g2_p g3_p g5_p
      clear hbp
      have HK2 : Hid (CallAt (w1.setCell ⟨b, 2, none⟩ (.int .i64 p)) b (k.named1 l)) := HC1.out.set 2 _ (fun vw vg => by have := HP2.out; simp only [K.cells, K.named1] at *; rw [← this]; rfl) rfl rfl
      have HU2 : Hid (Upd [b] w (w1.setCell ⟨b, 2, none⟩ (.int .i64 p))) := HU1.out.setCell _ (.inl (by simp))
      rw [t1] at g5_p
      rw [tq] at g3_p
      go_wp2_with fail
      go_ret
      rw [HG.out]
      exact ⟨⟨_, [], rfl, SaysN.nil _ _, HK2.out.set 5 (.int .i64 2) (fun _ _ => rfl) rfl rfl, HU2.out.setCell _ (.inl (by simp))⟩⟩
    · have to2 : k.out = false := by simpa using tq
      have HG : Hid (k.named l = ({ k.named1 l with state := 3 }, [(k.named1 l).conn])) := by
        show _ = _
        unfold K.named
        have e1 := HT0.out
        rw [if_neg (by rw [HP2.out]; exact HP0.out), to2]
        simp [e1]
      clear hs01
      have tq := to2
      clear to2
      go_enter Tryz.func277, Tryz.ntmps277
      go_wp2_with fail
      refine (HNUM.out _ (HL.out.upd ((Upd.refl [] w).alloc _))).mono ?_
      rintro e w1 ⟨rfl, hu1⟩
      have HC1 := Lib.hid (HC.out.upd (((Upd.refl [] w).alloc _).trans hu1))
      have HU1 : Hid (Upd [b] w w1) := (((Upd.refl [] w).alloc _).trans hu1).mono (by simp)
      clear hu1 g5
      obtain ⟨vwp, vgp, hbp⟩ := HC1.out.cells_
      have g2_p := hbp.cell 2
      have g3_p := hbp.cell 3
      have g5_p := hbp.cell 5
      have fzp := hbp.frozen
      have ltp := hbp.lt
      simp [K.cells, K.named1] at g2_p g3_p g5_p
      clear hbp
      have HK2 : Hid (CallAt (w1.setCell ⟨b, 2, none⟩ (.int .i64 p)) b (k.named1 l)) := HC1.out.set 2 _ (fun vw vg => by have := HP2.out; simp only [K.cells, K.named1] at *; rw [← this]; rfl) rfl rfl
      have HU2 : Hid (Upd [b] w (w1.setCell ⟨b, 2, none⟩ (.int .i64 p))) := HU1.out.setCell _ (.inl (by simp))
      rw [t1] at g5_p
      rw [tq] at g3_p
      go_wp2_with fail
      have HK7 : Hid (CallAt (((w1.setCell ⟨b, 2, none⟩ (.int .i64 p)).setCell ⟨b, 5, none⟩ (.int .i64 2)).setCell ⟨b, 5, none⟩ (.int .i64 3)) b { k.named1 l with state := 3 }) := by
        have h := (HK2.out.set 5 (.int .i64 2) (k' := { k.named1 l with state := 2 }) (fun _ _ => rfl) rfl rfl).set 5 (.int .i64 3) (k' := { k.named1 l with state := 3 }) (fun _ _ => rfl) rfl rfl
        exact h
      have HU7 : Hid (Upd [b] w (((w1.setCell ⟨b, 2, none⟩ (.int .i64 p)).setCell ⟨b, 5, none⟩ (.int .i64 2)).setCell ⟨b, 5, none⟩ (.int .i64 3))) := (HU2.out.setCell _ (.inl (by simp))).setCell _ (.inl (by simp))
      refine (conn_any b _ _ HK7.out HWL.out).mono ?_
      rintro e w8 ⟨u8, ou8, rfl, ho8, hu8, hf8⟩
      obtain ⟨ao8, cap8, rfl, -, -⟩ := ho8.shape
      obtain ⟨n8, hn8⟩ : ∃ n, n = (({ k.named1 l with state := 3 } : K).conn.2).length := ⟨_, rfl⟩
      rw [← hn8] at ho8
      rw [← hn8]
      have HN8 := Lib.hid hn8
      clear hn8
      rw [show ({ k.named1 l with state := 3 } : K).peer = p from HP2.out]
      have HO8 := Lib.hid (ho8.alloc (.cells #[.int .i64 p, .slice ao8 n8 cap8] 191))
      have HK8 := Lib.hid (HK7.out.upd (hu8.alloc (.cells #[.int .i64 p, .slice ao8 n8 cap8] 191)))
      have HU8 : Hid (Upd [b] w (w8.alloc (.cells #[.int .i64 p, .slice ao8 n8 cap8] 191))) := HU7.out.trans ((hu8.alloc _).mono (by simp))
      have HR8 : Hid (Rd (w8.alloc (.cells #[.int .i64 p, .slice ao8 n8 cap8] 191)) 2 (.slice (some ⟨w8.heap.size, 0, none⟩) 1 1) 1 [.int .i64 p, .slice ao8 n8 cap8]) := Own.rd' (own := [w8.heap.size]) (e := 191) ⟨rfl, .inr ⟨w8.heap.size, 0, 1, _, rfl, rfl, Blk.new _ _ _, Nat.le_refl _, by simp [maxLen], by simp, rfl⟩⟩ (by simp [Value.oneCell'])
      have HF8 : Hid (∀ x ∈ ou8, w.heap.size ≤ x) := fun x hx => Nat.le_trans HU7.out.size (hf8 x hx)
      clear ho8 hu8 hf8 g2_p g3_p g5_p fzp ltp
      go_wp2_with (first
        | (at_builtin; refine wpList_append_Rd _ rfl (.tmp 51) (.tmp 54) 81 rfl 191 j0 _ 2 32 Tryz.underlying81 hj0 jz0 jz1 jz2 rfl (by decide) _ 0 [] [] (by simp [Act.eval]) (Own.nil _ _ _) _ 1 _ (by simp [Act.eval]) HR8.out (by simp only [maxLen]; omega) (by omega) ?_; intro ao9 cap9 w9 own9 ho9 hin9 hu9; have HS9 := Lib.hid ho9; have HU9 := Lib.hid hu9; have HF9 : Hid (∀ x ∈ own9, w.heap.size ≤ x) := (fun x hx => Nat.le_trans HU8.out.size ((hin9 x hx).resolve_left (by simp))); clear ho9 hin9 hu9))
      go_ret
      rw [HG.out]
      refine ⟨⟨_, own9, rfl, ⟨[.slice ao8 n8 cap8], fun _ => ou8, rfl, by simpa [sayCells, show (k.named1 l).conn.fst = p from HP2.out] using HS9.out, HF9.out, ?_, fun i j hi hj hij => by simp at hi hj; omega⟩, HK8.out.upd HU9.out, HU8.out.trans (HU9.out.mono (by simp))⟩⟩
      intro i q x hi hx
      match i with
      | 0 =>
        simp at hi hx; subst hi hx
        refine ⟨?_, HF8.out⟩
        have h := HO8.out.upd HU9.out (by simp)
        have e8 : n8 = (k.named1 l).conn.2.length := HN8.out
        rw [← e8]
        exact h
      | i + 1 => simp at hi
end Go.Proofs.YtglafpdealjlnaaGreat
