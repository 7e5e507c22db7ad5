/- The walk of a tunnel's Out. -/
import Derived.Test.YtolfjfkkbhbbbaaGreatQTunU
import Derived.Test.YtolfjfkkbhbbbaaGreatQMsgF
import Derived.Test.YtolfjfkkbhbbbaaGreatQAvpC
namespace Go.Proofs.YtolfjfkkbhbbbaaGreat
open Go.RowKit
set_option linter.unusedSimpArgs false
set_option linter.unusedVariables false
set_option maxRecDepth 100000

theorem items_at (l : List Item) (k : Nat) {i : Item} (h : l[k]? = some i) : (items l)[k * 3]? = some (.int .i64 i.ns) ∧ (items l)[k * 3 + 1]? = some (.int .i64 i.nr) ∧ (items l)[k * 3 + 2]? = some (.string i.body) := by
  induction l generalizing k with
  | nil => simp at h
  | cons a l ih =>
    cases k with
    | zero => simp at h; subst h; exact ⟨rfl, rfl, rfl⟩
    | succ k =>
      obtain ⟨h1, h2, h3⟩ := ih k (by simpa using h)
      refine ⟨?_, ?_, ?_⟩
      · rw [← h1, show (k + 1) * 3 = k * 3 + 3 by omega]; rfl
      · rw [← h2, show (k + 1) * 3 + 1 = k * 3 + 1 + 3 by omega]; rfl
      · rw [← h3, show (k + 1) * 3 + 2 = k * 3 + 2 + 3 by omega]; rfl
/-- One item, read. -/
theorem Own.itemAt {w : World} {v : Value} {l : List Item} {oo : List Nat} (h : Own w 91 3 v l.length (items l) oo) (k : Nat) {i : Item} (hk : l[k]? = some i) :
    ∃ g off cap, v = .slice (some ⟨g, off, none⟩) l.length cap ∧ oo = [g] ∧ l.length ≤ cap ∧ w.cell? ⟨g, off + k * 3, none⟩ = some (.int .i64 i.ns) ∧ w.cell? ⟨g, off + k * 3 + 1, none⟩ = some (.int .i64 i.nr) ∧ w.cell? ⟨g, off + k * 3 + 2, none⟩ = some (.string i.body) := by
  have hl : 0 < l.length := by
    rcases Nat.eq_zero_or_pos l.length with h0 | h0
    · rw [List.eq_nil_of_length_eq_zero h0] at hk; simp at hk
    · exact h0
  obtain ⟨g, off, cap, h1, h2, h3, h4, h5⟩ := h.form hl
  obtain ⟨k1, k2, k3⟩ := items_at l k hk
  exact ⟨g, off, cap, h1, h2, h3, h5 _ _ k1, by rw [Nat.add_assoc]; exact h5 _ _ k2, by rw [Nat.add_assoc]; exact h5 _ _ k3⟩
/-- What an item that goes out is like. -/
structure OutItem (c : C) (i : Item) : Prop where
  ns : 0 ≤ i.ns ∧ i.ns < 65536
  nr : 0 ≤ i.nr ∧ i.nr < 65536
  body : i.body.size = 0 ∨ i.body ∈ c.waits ∨ i.body ∈ c.flies
theorem C.outLoop_items (c0 : C) : ∀ (n : Nat) (p : C × List Item), (0 ≤ p.1.sent ∧ p.1.sent < 65536) → (0 ≤ p.1.came ∧ p.1.came < 65536) → (∀ x ∈ p.1.waits, x ∈ c0.waits) → (∀ i ∈ p.2, OutItem c0 i) →
    (∀ i ∈ (C.outLoop n p).2, OutItem c0 i) ∧ (0 ≤ (C.outLoop n p).1.sent ∧ (C.outLoop n p).1.sent < 65536) ∧ (0 ≤ (C.outLoop n p).1.came ∧ (C.outLoop n p).1.came < 65536) ∧ (C.outLoop n p).2.length ≤ p.2.length + n := by
  intro n
  induction n with
  | zero => intro p h1 h2 h3 h4; exact ⟨h4, h1, h2, Nat.le_refl _⟩
  | succ n ih =>
    rintro ⟨c, l⟩ h1 h2 h3 h4
    rw [C.outLoop]
    split
    · rename_i hc
      have hhd : hd c.waits ∈ c.waits := by
        cases hw : c.waits with
        | nil => rw [hw] at hc; simp at hc
        | cons a r => simp [hd]
      obtain ⟨k1, k2, k3, k4⟩ := ih (c.fly, l ++ [c.flyItem]) ⟨by show 0 ≤ (c.sent + 1) % 65536; omega, by show (c.sent + 1) % 65536 < _; omega⟩ h2 (fun x hx => h3 x (List.mem_of_mem_tail hx)) (fun i hi => by
        rcases List.mem_append.1 hi with h | h
        · exact h4 i h
        · simp at h; subst h; exact ⟨h1, h2, .inr (.inl (h3 _ hhd))⟩)
      refine ⟨k1, k2, k3, ?_⟩
      simp only [List.length_append, List.length_cons, List.length_nil] at k4 ⊢
      omega
    · exact ⟨h4, h1, h2, by omega⟩
theorem C.out_items {c : C} (h : c.ok) : (∀ i ∈ c.out.2, OutItem c i) ∧ c.out.2.length ≤ 42 := by
  unfold C.out
  split
  · simp
  · have hag : ∀ i ∈ c.outAgain, OutItem c i := by
      unfold C.outAgain
      split
      · rename_i hc
        intro i hi
        simp at hi
        subst hi
        refine ⟨⟨by show 0 ≤ c.first; unfold C.first; omega, by show c.first < _; unfold C.first; omega⟩, ⟨h.c1, h.c2⟩, .inr (.inr ?_)⟩
        cases hw : c.flies with
        | nil => rw [hw] at hc; simp at hc
        | cons a r => simp [hd]
      · simp
    have hal : c.outAgain.length ≤ 1 := by unfold C.outAgain; split <;> simp
    obtain ⟨k1, k2, k3, k4⟩ := C.outLoop_items c c.waits.length (c, c.outAgain) ⟨h.s1, h.s2⟩ ⟨h.c1, h.c2⟩ (fun x hx => hx) hag
    have := h.l1
    have := h.q2
    dsimp only at k4
    unfold C.outEnd
    dsimp only
    split
    · refine ⟨fun i hi => ?_, by simp; omega⟩
      rcases List.mem_append.1 hi with h1 | h1
      · exact k1 i h1
      · simp at h1; subst h1; exact ⟨k2, k3, .inl rfl⟩
    · exact ⟨k1, by omega⟩
theorem Own.rd_strs {w : World} {e : TypeId} {n : Nat} {v : Value} {l : List ByteArray} {own : List Nat} (h : Own w e 1 v n (strs l) own) : Rd w 1 v n (strs l) := h.rd' (strs_oneCell l)
/-- A list of texts with one more text behind it. -/
theorem app_str1 {w : World} {v : Value} {n : Nat} {l : List ByteArray} {ol : List Nat} (h : Own w 9 1 v n (strs l) ol) (x : ByteArray) (hn : n ≤ 1000) :
    ∃ ao cap w' ol', (Builtin.append_ #[41, 41] 41 #[v, .slice (some ⟨w.heap.size, 0, none⟩) 1 1]).run Tryz.prog (w.alloc (.cells #[.string x] 9)) = .ok (.slice ao (n + 1) cap) w' ∧
      Own w' 9 1 (.slice ao (n + 1) cap) (n + 1) (strs (l ++ [x])) ol' ∧ (∀ k, k ∈ ol' → k ∈ ol ∨ w.heap.size ≤ k) ∧ Upd ol w w' := by
  obtain ⟨i0, hi, hz0, hz1, hz2⟩ := info_parts info_str
  have hx : Own (w.alloc (.cells #[.string x] 9)) 9 1 (.slice (some ⟨w.heap.size, 0, none⟩) 1 1) 1 (strs [x]) [w.heap.size] := Own.one_new w _ _
  obtain ⟨ao, cap, w', ol', r1, r2, r3, r4⟩ := run_append_Rd (P := Tryz.prog) (w.alloc (.cells #[.string x] 9)) 41 41 9 i0 _ 1 16 Tryz.underlying41 hi hz0 hz1 hz2 rfl (by decide) v n (strs l) ol (h.alloc _) _ 1 (strs [x]) hx.rd_strs (by simp only [maxLen]; omega) (by omega)
  refine ⟨ao, cap, w', ol', r1, by rw [show strs (l ++ [x]) = strs l ++ strs [x] by simp [strs]]; exact r2, fun k hk => (r3 k hk).imp id (fun h => by simp at h; omega), ((Upd.refl ol w).alloc _).trans r4⟩
structure OutTEnd (w : World) (b : Nat) (own : List Nat) (r : Tn × List ByteArray) (e : Ending) (w' : World) : Prop where
  ex : ∃ u ol own', e = .returned u ∧ Own w' 9 1 u r.2.length (strs r.2) ol ∧ (∀ k ∈ ol, w.heap.size ≤ k) ∧ (∀ k ∈ ol, k ∉ own') ∧ TunAt w' b r.1 own' ∧ Grew w own own'
  upd : Upd own w w'

set_option maxHeartbeats 2000000 in
theorem tout_any {w : World} {b : Nat} {t : Tn} {own : List Nat} (h : TunAt w b t own) (hi : 0 ≤ t.id ∧ t.id < 65536) (hw : ∀ x ∈ t.way.waits, 2 ≤ x.size ∧ x.size ≤ 1500) (hf : ∀ x ∈ t.way.flies, 2 ≤ x.size ∧ x.size ≤ 1500) :
    Calls Tryz.prog 20 #[.pointer (some ⟨b, 0, none⟩)] w (OutTEnd w b own t.out) := by
  have HT := Lib.hid h
  have HN := Lib.hid (tnone_at h)
  have c10 := h.state
  have c19 := h.cellAt 19 (.bool t.told) (fun _ _ => rfl)
  have f19 := h.frozen 19
  obtain ⟨R, hR⟩ : ∃ R, t.out = R := ⟨_, rfl⟩
  have HR : Hid (R = if t.told = true then (t, []) else ({ t with told := decide (t.state = 4), way := t.way.out.1 }, t.way.out.2.map (sayM t.id))) := by show _ = _; rw [← hR, Tn.out]
  rw [hR]
  clear hR h
  obtain ⟨td, hto⟩ : ∃ x, t.told = x := ⟨_, rfl⟩
  rw [hto] at c19 HR
  clear hto
  cases td
  case true =>
    go_enter Tryz.func20, Tryz.ntmps20
    go_wp2_with fail
    refine HN.out.mono ?_
    rintro e w' ⟨rfl, rfl⟩
    go_wp2_with fail
    go_ret
    rw [show R = (t, []) by rw [HR.out]; simp]
    exact ⟨⟨_, [], own, rfl, by simpa [strs] using Own.nil _ _ _, by simp, by simp, HT.out, Grew.refl _ _⟩, Upd.refl _ _⟩
  have HR1 : Hid (R = ({ t with told := decide (t.state = 4), way := t.way.out.1 }, t.way.out.2.map (sayM t.id))) := by show _ = _; rw [HR.out]; simp
  clear HR
  obtain ⟨bw0, ow0, c9, hcw0, -⟩ := HT.out.wayUp
  have HOKC : Hid t.way.ok := by obtain ⟨ok, -⟩ := hcw0; exact ok
  clear hcw0
  go_enter Tryz.func20, Tryz.ntmps20
  go_wp2_with fail
  refine HN.out.mono ?_
  rintro e w' ⟨rfl, rfl⟩
  go_wp2_with fail
  have S1 := Lib.hid ((Tws.begin HT.out).sets 19 (.bool (t.state == 4)) { t with told := decide (t.state = 4) } (fun _ _ => rfl) rfl rfl)
  have c9' : (w.setCell ⟨b, 19, none⟩ (.bool (t.state == 4))).cell? ⟨b, 9, none⟩ = some (.pointer (some ⟨bw0, 0, none⟩)) := by go_simp
  obtain ⟨w1, hw1⟩ : ∃ w1, w.setCell ⟨b, 19, none⟩ (.bool (t.state == 4)) = w1 := ⟨_, rfl⟩
  rw [hw1] at S1 c9' ⊢
  obtain ⟨bw, ow, c9'', hcw, hback⟩ := S1.out.at_.wayUp
  obtain rfl : bw0 = bw := by rw [c9'] at c9''; injection c9'' with c9''; injection c9'' with c9''; injection c9'' with c9''; injection c9''
  have HBK := Lib.hid hback
  have HOA := Lib.hid (out_at hcw)
  dsimp only at HOA HBK
  clear hw1 c9 c9' c9'' c10 c19 f19 hcw hback
  refine HOA.out.mono ?_
  rintro e w2 ⟨⟨v, oo, rfl, ho, hn⟩, ⟨own2, k1, k2⟩, k3⟩
  obtain ⟨⟨own3, z1, z2⟩, z3⟩ := HBK.out w2 _ own2 k1 k2 k3
  have S2 := Lib.hid (S1.out.next z1 z2 z3)
  have HIT := Lib.hid (C.out_items HOKC.out)
  have HB : Hid (∀ i ∈ t.way.out.2, (0 ≤ i.ns ∧ i.ns < 65536) ∧ (0 ≤ i.nr ∧ i.nr < 65536) ∧ (i.body.size = 0 ∨ (2 ≤ i.body.size ∧ i.body.size ≤ 1500))) := fun i h => by
    obtain ⟨h1, h2, h3⟩ := HIT.out.1 i h
    refine ⟨h1, h2, ?_⟩
    rcases h3 with h3 | h3 | h3
    · exact .inl h3
    · exact .inr (hw _ h3)
    · exact .inr (hf _ h3)
  have HN42 := Lib.hid HIT.out.2
  generalize t.way.out.2 = its at *
  generalize t.way.out.1 = q1 at *
  obtain ⟨T, hT⟩ : ∃ T : Tn, { t with told := decide (t.state = 4), way := q1 } = T := ⟨_, rfl⟩
  have HTI : Hid (T.id = t.id) := by show _ = _; rw [← hT]
  rw [hT] at HR1 S2
  obtain ⟨ao, cap, rfl, -, -⟩ := ho.shape
  obtain ⟨n, hn'⟩ : ∃ n, its.length = n := ⟨_, rfl⟩
  have HNL := Lib.hid hn'
  have HO := Lib.hid ho
  rw [hn']
  rw [hn'] at HO HN42
  have HOO : Hid (∀ k ∈ oo, w.heap.size ≤ k) := fun k hk => Nat.le_trans S1.out.u.size (hn k hk)
  have hn42 := HN42.out
  clear ho hn hn' hT k1 k2 k3 z1 z2 z3 HBK HOA HIT hw hf
  go_wp2_with fail
  go_loopg [3, 30] n (fun m s3 s30 wr => ∃ (k : Nat) (o2 : List Nat), k + m = n ∧ s30 = .int .i64 k ∧ Own wr 9 1 s3 k (strs ((its.take k).map (sayM t.id))) o2 ∧ (∀ x ∈ o2, w2.heap.size ≤ x) ∧ Upd [] w2 wr)
  case atStart => exact ⟨0, [], by omega, rfl, by simpa [strs] using Own.nil _ _ _, by simp, Upd.refl _ _⟩
  case round =>
    obtain ⟨k, o2, hk, rfl, hos, hin, hu⟩ := hrel
    obtain ⟨ao2, cap2, rfl, -, -⟩ := hos.shape
    by_cases tt : k < n
    · obtain ⟨x, hx⟩ : ∃ x, its[k]? = some x := ⟨_, List.getElem?_eq_getElem (by have := HNL.out; omega)⟩
      have HX := Lib.hid hx
      have hxb := HB.out x (List.mem_of_getElem? hx)
      have HXB := Lib.hid hxb
      obtain ⟨g, off, cap', hv, rfl, hle, y0, y1, y2⟩ := Own.itemAt (HNL.out.symm ▸ HO.out.upd hu (by simp)) k hx
      injection hv with hv1 hv2 hv3
      subst hv1 hv3
      have c11 := (S2.out.at_.keep hu).cellAt 11 (.int .i64 T.id) (fun _ _ => rfl)
      obtain ⟨xn, xr, xb⟩ := x
      dsimp only at y0 y1 y2
      have HU := Lib.hid hu
      have HOS := Lib.hid hos
      have HIN := Lib.hid hin
      clear hx hxb hu hos hin hv2 hle
      go_wp2_with fail
      have hlt : b < wr.heap.size := (S2.out.at_.keep HU.out).lt b (S2.out.at_.keep HU.out).mem
      by_cases e1 : xb.size = 0
      · have e0 := str_empty_t e1
        have E1 := Lib.hid e1
        clear e1
        go_region
        all_goals go_wp2_with fail
        obtain ⟨W3, hW3⟩ : ∃ W3, ((wr.alloc (Obj.cells #[.int .i64 xn, .int .i64 xr, .string xb] 91)).alloc (Obj.cells #[.int .i64 T.id, .int .i64 0, .int .i64 xn, .int .i64 xr, .slice none 0 0] 55)).drew = W3 := ⟨_, rfl⟩
        have HU3 : Hid (Upd [] wr W3) := by
          show Upd _ _ _
          rw [← hW3]
          exact (((Upd.refl [] wr).alloc _).alloc _).drew
        rw [hW3]
        clear hW3 c11 y0 y1 y2 hlt e0
        refine (raw_any T.id 0 xn xr (.slice none 0 0) ⟨#[]⟩ ⟨by rw [HTI.out]; exact hi, by omega, HXB.out.1, HXB.out.2.1, Nat.zero_le _⟩ rfl _).mono ?_
        have HSAY : Hid (sayM t.id ⟨xn, xr, xb⟩ = rawOf T.id 0 xn xr ⟨#[]⟩) := by show _ = _; rw [sayM, if_pos E1.out, HTI.out]
        generalize rawOf T.id 0 xn xr ⟨#[]⟩ = raw at *
        rintro e w4 ⟨rfl, u4⟩
        have HU34 := Lib.hid (HU3.out.trans u4)
        have HU4 := Lib.hid (HU.out.trans HU34.out)
        have hos4 := HOS.out.upd HU34.out (by simp)
        obtain ⟨ap, cp, w6, op, hrun, ho6, hn6, hu6⟩ := app_str1 hos4 raw (by omega)
        have HO6 := Lib.hid ho6
        have HN6 := Lib.hid hn6
        have HU6 : Hid (Upd [] w2 w6) := HU4.out.trans' hu6 (fun x hx => .inr (HIN.out x hx))
        have HRUN := Lib.hid hrun
        clear u4 hos4 hrun ho6 hn6 hu6
        go_wp2_with (at_builtin; refine wpList_append_step rfl (.tmp 60) (.tmp 64) 41 rfl _ _ _ _ (by simp [Act.eval]) (by simp [Act.eval]) HRUN.out ?_)
        go_roundg (n - (k + 1))
        case rel =>
          refine ⟨k + 1, op, by omega, by go_num, ?_, fun x hx => ?_, HU6.out⟩
          · rw [show ((its.take (k + 1)).map (sayM t.id)) = (its.take k).map (sayM t.id) ++ [raw] by rw [List.take_add_one, HX.out]; simp [HSAY.out]]
            exact HO6.out
          · rcases HN6.out x hx with h | h
            · exact HIN.out x h
            · exact Nat.le_trans HU4.out.size h
        case measure => omega
      · have e0 := str_empty_f e1
        have hsz : 2 ≤ xb.size ∧ xb.size ≤ 1500 := by rcases HXB.out.2.2 with h | h; exact absurd h e1; exact h
        obtain ⟨hsz1, hsz2⟩ := hsz
        have E1 := Lib.hid e1
        have q0 := byte_get xb 0 (by omega)
        have q1 := byte_get xb 1 (by omega)
        have hb0 := byte_bd xb 0
        have hb1 := byte_bd xb 1
        have hor := or_low7 (byte xb 0) (byte xb 1) ⟨hb0.1, by omega, hb1.1, hb1.2⟩
        rw [IntWalk.wrap64_in _ (by omega), IntWalk.wrap64_in _ (by omega)] at hor
        have HSS : Hid (sayM t.id ⟨xn, xr, xb⟩ = rawOf T.id (byte xb 0 * 256 + byte xb 1) xn xr (xb.extract 2 xb.size)) := by show _ = _; rw [sayM, if_neg E1.out, HTI.out]
        have HVZ : Hid ((xb.extract 2 xb.size).size ≤ 65523) := by show _ ≤ _; rw [ByteArray.size_extract]; omega
        generalize byte xb 0 = z0 at *
        generalize byte xb 1 = z1 at *
        clear e1
        go_region
        all_goals go_wp2_with fail
        all_goals go_region
        all_goals go_wp2_with fail
        have hzz : 0 ≤ z0 * 256 + z1 ∧ z0 * 256 + z1 < 65536 := by omega
        obtain ⟨W3, hW3⟩ : ∃ W3, ((wr.alloc (Obj.cells #[.int .i64 xn, .int .i64 xr, .string xb] 91)).alloc (Obj.cells #[.int .i64 T.id, .int .i64 (z0 * 256 + z1), .int .i64 xn, .int .i64 xr, .slice none 0 0] 55)).drew.drew = W3 := ⟨_, rfl⟩
        have HU3 : Hid (Upd [] wr W3) := by
          show Upd _ _ _
          rw [← hW3]
          exact (((Upd.refl [] wr).alloc _).alloc _).drew.drew
        rw [hW3]
        clear hW3 c11 y0 y1 y2 hlt e0
        refine (raw_any T.id (z0 * 256 + z1) xn xr (.slice none 0 0) (xb.extract 2 xb.size) ⟨by rw [HTI.out]; exact hi, hzz, HXB.out.1, HXB.out.2.1, HVZ.out⟩ rfl _).mono ?_
        have HSAY : Hid (sayM t.id ⟨xn, xr, xb⟩ = rawOf T.id (z0 * 256 + z1) xn xr (xb.extract 2 xb.size)) := HSS.out
        generalize rawOf T.id (z0 * 256 + z1) xn xr (xb.extract 2 xb.size) = raw at *
        rintro e w4 ⟨rfl, u4⟩
        have HU34 := Lib.hid (HU3.out.trans u4)
        have HU4 := Lib.hid (HU.out.trans HU34.out)
        have hos4 := HOS.out.upd HU34.out (by simp)
        obtain ⟨ap, cp, w6, op, hrun, ho6, hn6, hu6⟩ := app_str1 hos4 raw (by omega)
        have HO6 := Lib.hid ho6
        have HN6 := Lib.hid hn6
        have HU6 : Hid (Upd [] w2 w6) := HU4.out.trans' hu6 (fun x hx => .inr (HIN.out x hx))
        have HRUN := Lib.hid hrun
        clear u4 hos4 hrun ho6 hn6 hu6
        go_wp2_with (at_builtin; refine wpList_append_step rfl (.tmp 60) (.tmp 64) 41 rfl _ _ _ _ (by simp [Act.eval]) (by simp [Act.eval]) HRUN.out ?_)
        go_roundg (n - (k + 1))
        case rel =>
          refine ⟨k + 1, op, by omega, by go_num, ?_, fun x hx => ?_, HU6.out⟩
          · rw [show ((its.take (k + 1)).map (sayM t.id)) = (its.take k).map (sayM t.id) ++ [raw] by rw [List.take_add_one, HX.out]; simp [HSAY.out]]
            exact HO6.out
          · rcases HN6.out x hx with h | h
            · exact HIN.out x h
            · exact Nat.le_trans HU4.out.size h
        case measure => omega
    · obtain rfl : k = n := by omega
      go_wp2_with fail
      go_ret
      have hS := S2.out.keep hu
      rw [HR1.out]
      have htk : its.take k = its := List.take_of_length_le (Nat.le_of_eq HNL.out)
      rw [htk] at hos
      refine ⟨⟨_, o2, own3, rfl, by simpa [HNL.out] using hos, fun y hy => Nat.le_trans S2.out.u.size (hin y hy), fun y hy hy2 => ?_, hS.at_, hS.gr⟩, hS.u⟩
      have := S2.out.at_.lt y hy2
      have := hin y hy
      omega
end Go.Proofs.YtolfjfkkbhbbbaaGreat
