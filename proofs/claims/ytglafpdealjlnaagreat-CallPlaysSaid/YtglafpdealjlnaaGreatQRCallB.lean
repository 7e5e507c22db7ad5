/- The walks of the document's With, end, Close, Tell, connect, Open (chapter 22). -/
import Derived.Test.YtglafpdealjlnaaGreatQRCallA
import Derived.Test.YtglafpdealjlnaaGreatQCallD
namespace Go.Proofs.YtglafpdealjlnaaGreat
open Go.RowKit
set_option linter.unusedSimpArgs false
set_option linter.unusedVariables false
set_option maxRecDepth 100000

abbrev Big (x : Int) : Prop := -9223372036854775808 ≤ x ∧ x ≤ 9223372036854775807
theorem RSaid.at_ {w w' : World} {p : Sy} {e : Ending} (h : RSaid w [p] e w') : ∃ ao cap own, e = .returned (.slice ao 1 cap) ∧ RSaysAt w' (.slice ao 1 cap) [p] own ∧ (∀ x ∈ own, w.heap.size ≤ x) ∧ Upd [] w w' := by
  obtain ⟨v, own, rfl, h1, h2, h3⟩ := h.ex
  obtain ⟨ao, cap, rfl, -, -⟩ := h1.shape
  exact ⟨ao, cap, own, rfl, h1, h2, h3⟩
set_option maxHeartbeats 1000000 in
theorem rwith_off (X : List Nat) (b : Nat) (k : K) (l : List Av) (v : Value) (w : World) (h : RCallOff X w b k) (hX : ∀ x ∈ X, x < w.heap.size) (hl : AvsAt w v l) (hs : l.length < 1000000) :
    Calls Tryz.prog 40 #[.pointer (some ⟨b, 0, none⟩), v] w fun e w' => e = .returned (.tuple #[]) ∧ RCallOff X w' b { k with with_ := l } ∧ Upd [b] w w' := by
  obtain ⟨i0, hi, hz0, hz1, hz2⟩ := info_parts info_avp
  obtain ⟨vw, vg, ow, og, hb, h2, h3, h4⟩ := h
  have HOG : Hid (∀ x ∈ og, x ∉ X) := fun x hx => h4 x (by simp [hx])
  have HX := Lib.hid hX
  obtain ⟨ao, cap, rfl, -⟩ := id hl
  obtain ⟨n, hn⟩ : ∃ n, n = l.length := ⟨_, rfl⟩
  have HL := Lib.hid hl.rd
  rw [← hn] at HL hs ⊢
  have HN := Lib.hid hn
  have HB := Lib.hid hb
  have HG := Lib.hid h3
  have hlt := hb.lt
  clear hb h2 h3 h4 hl hn hX
  go_enter Tryz.func40, Tryz.ntmps40
  go_wp2_with (at_builtin; refine wpList_append_Rd _ rfl (.const (.slice none 0 0)) (.tmp 5) 22 rfl 85 i0 _ 5 40 Tryz.underlying22 hi hz0 hz1 hz2 rfl (by decide) _ 0 [] [] (by simp [Act.eval]) (Own.nil _ _ _) _ n _ (by simp [Act.eval]) HL.out (by simp only [maxLen]; omega) (by omega) ?_; intro ao1 cap1 w5 own1 ho1 hin1 hu5; rw [Nat.zero_add] at ho1; rw [Nat.zero_add]; rw [List.nil_append] at ho1; have HO1 := Lib.hid ho1; have HU5 := Lib.hid hu5; have HB5 := Lib.hid (HB.out.upd hu5 (by simp)); have g5 := HB5.out.cell 5; have f5 := HB5.out.frozen 5; have lt5 := HB5.out.lt; simp [K.rcells] at g5; have HOF : Hid (∀ x ∈ own1 ++ og, x ∉ X) := (fun x hx hx2 => (List.mem_append.1 hx).elim (fun hx => Nat.lt_irrefl _ (Nat.lt_of_lt_of_le (HX.out x hx2) ((hin1 x hx).resolve_left (by simp)))) (fun hx => HOG.out x hx hx2)); clear ho1 hin1 hu5)
  go_end0
  have hb2 := HB5.out.set_ 5 (.slice ao1 n cap1)
  refine ⟨rfl, ⟨.slice ao1 n cap1, vg, own1, og, hb2, ?_, (HG.out.upd HU5.out (by simp)).setCell _ ((HG.out.upd HU5.out (by simp)).ne_blk HB5.out (by decide)), HOF.out⟩, (HU5.out.mono (by simp)).setCell _ (.inl (by simp))⟩
  have h := HO1.out.setCell (p := ⟨b, 5, none⟩) (.slice ao1 n cap1) (HO1.out.ne_blk HB5.out (by decide))
  rw [HN.out] at h
  rw [HN.out]
  exact h

theorem rwith_any (b : Nat) (k : K) (l : List Av) (v : Value) (w : World) (h : RCallAt w b k) (hl : AvsAt w v l) (hs : l.length < 1000000) :
    Calls Tryz.prog 40 #[.pointer (some ⟨b, 0, none⟩), v] w fun e w' => e = .returned (.tuple #[]) ∧ RCallAt w' b { k with with_ := l } ∧ Upd [b] w w' :=
  (rwith_off [] b k l v w h.offN (by simp) hl hs).mono fun e w' ⟨h1, h2, h3⟩ => ⟨h1, h2.at_, h3⟩
set_option maxHeartbeats 2000000 in
theorem rend_any (b : Nat) (k : K) (hi : Big k.id) (code : Int) (hc : Big code) (w : World) (h : RCallAt w b k) :
    Calls Tryz.prog 182 #[.pointer (some ⟨b, 0, none⟩), .int .i64 code] w (RSaidEnd w b (k.fin code)) := by
  obtain ⟨x2, hx2⟩ : ∃ x, be 2 k.id = x := ⟨_, rfl⟩
  obtain ⟨x1, hx1⟩ : ∃ x, be 2 code = x := ⟨_, rfl⟩
  have hn1 := fun W => rnum18_any 1 code 2 (by omega) hc W
  simp only [Av.agg, numAv, hx1] at hn1
  have HN1 := Lib.hid hn1
  have HE1 : Hid (numAv 1 code 2 = ⟨true, false, 0, 1, x1⟩) := by rw [← hx1]; rfl
  have HE2 : Hid (k.own = ⟨true, false, 0, 14, x2⟩) := by rw [← hx2]; rfl
  have HK : Hid (RCallAt (w.setCell ⟨b, 4, none⟩ (.int .i64 4)) b { k with state := 4 }) := h.set 4 _ (fun _ _ => rfl) rfl rfl
  have HID := Lib.hid hi
  obtain ⟨vw, vg, hb⟩ := h.cells_
  have g4 := hb.cell 4
  have f4 := hb.frozen 4
  have hlt := hb.lt
  simp [K.rcells] at g4
  clear hb h hx2 hx1 hn1 hi hc
  go_enter Tryz.func182, Tryz.ntmps182
  go_wp2_with fail
  refine (HN1.out _).mono ?_
  rintro e w1 ⟨rfl, hu1⟩
  have HK1 := Lib.hid (HK.out.upd hu1)
  have HU1 : Hid (Upd [b] w w1) := ((Upd.refl [b] w).setCell _ (.inl (by simp))).trans (hu1.mono (by simp))
  clear hu1 g4 f4
  go_wp2_with fail
  refine (rcid_any b { k with state := 4 } HID.out _ HK1.out).mono ?_
  rintro e w2 ⟨rfl, hu2⟩
  rw [show ({ k with state := 4 } : K).own = k.own from rfl, HE2.out]
  simp only [Av.agg]
  have HK2 := Lib.hid (HK1.out.upd hu2)
  have HU2 : Hid (Upd [b] w w2) := HU1.out.trans (hu2.mono (by simp))
  clear hu2
  have HA := Lib.hid (avs_two w2 ⟨true, false, 0, 1, x1⟩ ⟨true, false, 0, 14, x2⟩)
  have HK3 := Lib.hid (HK2.out.upd ((Upd.refl [] w2).alloc (.cells #[.bool true, .bool false, .int .i64 0, .int .i64 1, .string x1, .bool true, .bool false, .int .i64 0, .int .i64 14, .string x2] 85)))
  have HU3 : Hid (Upd [b] w (w2.alloc (.cells #[.bool true, .bool false, .int .i64 0, .int .i64 1, .string x1, .bool true, .bool false, .int .i64 0, .int .i64 14, .string x2] 85))) := HU2.out.alloc _
  go_wp2_with fail
  refine (rsay_any b _ 14 (by decide) _ _ _ HK3.out HA.out (by simp)).mono ?_
  intro e w4 hs
  obtain ⟨ao, cap, own, rfl, ho, hf, hu4⟩ := hs.at_
  have HO := Lib.hid ho
  have HF : Hid (∀ x ∈ own, w.heap.size ≤ x) := fun x hx => Nat.le_trans HU3.out.size (hf x hx)
  have HK4 := Lib.hid (HK3.out.upd hu4)
  have HU4 : Hid (Upd [b] w w4) := HU3.out.trans (hu4.mono (by simp))
  clear ho hu4 hf hs
  go_wp2_with fail
  go_ret
  refine ⟨⟨_, own, rfl, ?_, HF.out, HK4.out, HU4.out⟩⟩
  have e : (k.fin code).2 = [(k.peer, [numAv 0 14 2, ⟨true, false, 0, 1, x1⟩, ⟨true, false, 0, 14, x2⟩])] := by rw [← HE1.out, ← HE2.out]; rfl
  rw [e]
  exact HO.out
set_option maxHeartbeats 1000000 in
theorem rclose_any (b : Nat) (k : K) (hi : Big k.id) (code : Int) (hc : Big code) (w : World) (h : RCallAt w b k) :
    Calls Tryz.prog 42 #[.pointer (some ⟨b, 0, none⟩), .int .i64 code] w (RSaidEnd w b (k.close code)) := by
  have HC := Lib.hid h
  have HE := Lib.hid (rend_any b k hi code hc w h)
  obtain ⟨vw, vg, hb⟩ := h.cells_
  have g4 := hb.cell 4
  have f4 := hb.frozen 4
  have hlt := hb.lt
  simp [K.rcells] at g4
  clear hb hi hc
  by_cases t4 : k.state = 4
  · have HG : Hid (k.close code = (k, [])) := by show _ = _; unfold K.close; rw [if_pos t4]
    rw [t4] at g4
    clear t4 h HE
    rw [HG.out]
    go_enter Tryz.func42, Tryz.ntmps42
    go_wp2_with fail
    go_ret
    exact ⟨⟨_, [], rfl, RSaysAt.nil _, by simp, HC.out, Upd.refl _ _⟩⟩
  by_cases t0 : k.state = 0
  · have HG : Hid (k.close code = ({ k with state := 4 }, [])) := by show _ = _; unfold K.close; rw [if_neg t4, if_pos t0]
    have HK : Hid (RCallAt (w.setCell ⟨b, 4, none⟩ (.int .i64 4)) b { k with state := 4 }) := h.set 4 _ (fun _ _ => rfl) rfl rfl
    rw [t0] at g4
    clear t4 t0 h HE
    rw [HG.out]
    go_enter Tryz.func42, Tryz.ntmps42
    go_wp2_with fail
    go_ret
    exact ⟨⟨_, [], rfl, RSaysAt.nil _, by simp, HK.out, (Upd.refl [b] _).setCell _ (.inl (by simp))⟩⟩
  · have HG : Hid (k.close code = k.fin code) := by show _ = _; unfold K.close; rw [if_neg t4, if_neg t0]
    have u4 : (k.state == 4) = false := by simpa using t4
    have u0 : (k.state == 0) = false := by simpa using t0
    rw [HG.out]
    clear t4 t0 h HG
    generalize k.fin code = r at *
    generalize k.state = st at *
    go_enter Tryz.func42, Tryz.ntmps42
    go_wp2_with fail
    refine HE.out.mono ?_
    rintro e w1 ⟨⟨v, own, rfl, hv, hf, hk, hu⟩⟩
    obtain ⟨ao, cap, rfl, -, -⟩ := hv.shape
    have HV := Lib.hid hv
    have HF := Lib.hid hf
    have HK := Lib.hid hk
    clear hv hf hk
    generalize r.2.length = n at *
    go_wp2_with fail
    go_ret
    exact ⟨⟨_, own, rfl, HV.out, HF.out, HK.out, hu⟩⟩
set_option maxHeartbeats 400000 in
theorem rtext20_any (kind : Int) (s : ByteArray) (w : World) :
    Calls Tryz.prog 185 #[.int .i64 kind, .string s] w fun e w' => e = .returned (.agg #[.bool true, .bool false, .int .i64 0, .int .i64 kind, .string s]) ∧ Upd [] w w' := rtext_any kind s w
set_option maxHeartbeats 1000000 in
theorem rtell_any (b : Nat) (k : K) (kind value : Int) (hk : Big kind) (s : ByteArray) (hsz : s.size ≤ maxLen) (w : World) (h : RCallAt w b k) :
    Calls Tryz.prog 44 #[.pointer (some ⟨b, 0, none⟩), .int .i64 kind, .int .i64 value, .string s] w (RSaid w (k.tell kind value s)) := by
  have HC := Lib.hid h
  have HKI := Lib.hid hk
  obtain ⟨vw, vg, hb⟩ := h.cells_
  have g4 := hb.cell 4
  have hlt := hb.lt
  simp [K.rcells] at g4
  simp only [maxLen] at hsz
  clear hb h hk
  by_cases t : k.state ≠ 3 ∨ 1000 < s.size
  · have HG : Hid (k.tell kind value s = []) := by show _ = _; unfold K.tell; rw [if_pos t]
    rw [HG.out]
    by_cases t3 : k.state = 3
    · have t4 : (1000 : Int) < s.size := by rcases t with h | h; exact absurd t3 h; omega
      rw [t3] at g4
      clear t t3 HG
      go_enter Tryz.func44, Tryz.ntmps44
      go_wp2_with fail
      go_ret
      exact ⟨⟨_, [], rfl, RSaysAt.nil _, by simp, Upd.refl _ _⟩⟩
    · have u3 : (k.state != 3) = true := by simpa using t3
      clear t t3 HG
      generalize k.state = st at *
      go_enter Tryz.func44, Tryz.ntmps44
      go_wp2_with fail
      go_ret
      exact ⟨⟨_, [], rfl, RSaysAt.nil _, by simp, Upd.refl _ _⟩⟩
  · have t3 : k.state = 3 := Classical.not_not.1 fun h => t (.inl h)
    have t4 : ¬ (1000 : Int) < s.size := fun h => t (.inr (by omega))
    have HG : Hid (k.tell kind value s = [(k.peer, numAv 0 kind 2 :: [⟨true, false, 0, value, s⟩])]) := by show _ = _; unfold K.tell; rw [if_neg t]; rfl
    rw [HG.out]
    rw [t3] at g4
    clear t t3 HG
    go_enter Tryz.func44, Tryz.ntmps44
    go_wp2_with fail
    refine (rtext_any value s _).mono ?_
    rintro e w1 ⟨rfl, hu1⟩
    have HA := Lib.hid (avs_one w1 ⟨true, false, 0, value, s⟩)
    have HK1 := Lib.hid ((HC.out.upd hu1).upd ((Upd.refl [] w1).alloc (.cells #[.bool true, .bool false, .int .i64 0, .int .i64 value, .string s] 85)))
    have HU1 := Lib.hid (hu1.alloc (.cells #[.bool true, .bool false, .int .i64 0, .int .i64 value, .string s] 85))
    clear hu1
    go_wp2_with fail
    refine (rsay_any b k kind HKI.out _ _ _ HK1.out HA.out (by simp)).mono ?_
    intro e w4 hs
    obtain ⟨ao, cap, own, rfl, ho, hf, hu4⟩ := hs.at_
    have HO := Lib.hid ho
    have HF : Hid (∀ x ∈ own, w.heap.size ≤ x) := fun x hx => Nat.le_trans HU1.out.size (hf x hx)
    have HU4 := Lib.hid (HU1.out.trans hu4)
    clear ho hu4 hf hs
    go_wp2_with fail
    go_ret
    exact ⟨⟨_, own, rfl, HO.out, HF.out, HU4.out⟩⟩
end Go.Proofs.YtglafpdealjlnaaGreat
