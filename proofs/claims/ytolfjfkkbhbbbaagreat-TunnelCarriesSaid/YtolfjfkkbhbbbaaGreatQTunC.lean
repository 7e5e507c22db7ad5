/- The walks of a tunnel's send, ask. The walks of a tunnel's ask. The walks of a tunnel's respond. The walk of a tunnel's about. The walk of a tunnel's end; a field set. The walks of a tunnel's Send, Close. Plain: an end opened up, so that its channel or its tape may go on, and closed again. -/
import Derived.Test.YtolfjfkkbhbbbaaGreatQTunP
import Derived.Test.YtolfjfkkbhbbbaaGreatQAvpBP
import Derived.Test.YtolfjfkkbhbbbaaGreatQStr
import Derived.Test.YtolfjfkkbhbbbaaGreatQCtlQ
import Derived.Test.YtolfjfkkbhbbbaaGreatQMsgA
import Derived.Test.YtolfjfkkbhbbbaaGreatQDigM
namespace Go.Proofs.YtolfjfkkbhbbbaaGreat
open Go.RowKit
set_option linter.unusedSimpArgs false
set_option linter.unusedVariables false
set_option maxRecDepth 20000

def Tn.send (t : Tn) (session : Int) (l : List Av) : Tn × Int :=
  if (putA l t.secret).2 ≠ 0 then (t, (putA l t.secret).2)
  else ({ t with way := (t.way.send (be 2 session ++ (putA l t.secret).1)).1 }, (t.way.send (be 2 session ++ (putA l t.secret).1)).2)

structure TunEnd (w : World) (b : Nat) (own : List Nat) (t : Tn) (v : Value) (e : Ending) (w' : World) : Prop where
  e : e = .returned v
  ex : ∃ own', TunAt w' b t own' ∧ Grew w own own'
  upd : Upd own w w'

def sndA (w1 : World) (bw : Nat) (ow : List Nat) (q : C) (vs : List Value) (W : World) : Prop := match vs with
  | [] => Upd [] w1 W
  | [_] => (∃ ow', CtlAt W bw q ow' ∧ Grew w1 ow ow') ∧ Upd ow w1 W
  | _ => False

set_option maxHeartbeats 2000000 in
theorem tsend_any {w : World} {b : Nat} {t : Tn} {own : List Nat} (h : TunAt w b t own) (session : Int) (hs : 0 ≤ session ∧ session < 65536) (l : List Av) (v : Value) (hl : AvsAt w v l)
    (hz : t.secret.size ≤ 400000) :
    Calls Tryz.prog 38 #[.pointer (some ⟨b, 0, none⟩), .int .i64 session, v] w (TunEnd w b own (t.send session l).1 (.int .i64 (t.send session l).2)) := by
  have HT := Lib.hid h
  obtain ⟨bd, od, bw, ow, hb, hd, hc, n1, n2, n3, rfl⟩ := h
  have c1 := hb.cell 1
  simp [Tn.cells] at c1
  have HB := Lib.hid hb
  have HD := Lib.hid hd
  have HC := Lib.hid hc
  have HP := Lib.hid (avpPut_any l v t.secret w hl hz)
  have HW := Lib.hid (two_any session hs)
  obtain ⟨ao, cap, rfl, -, -, -⟩ := hl
  obtain ⟨er, her⟩ : ∃ er, (putA l t.secret).2 = er := ⟨_, rfl⟩
  obtain ⟨x, hx⟩ : ∃ x, (putA l t.secret).1 = x := ⟨_, rfl⟩
  have HX : Hid (er = 0 → x.size ≤ 2000) := by
    show _ → _
    intro h0
    have := putA_ok (l := l) (secret := t.secret) (by rw [her, h0])
    rw [← hx, this.2.2.1]
    omega
  have HS : Hid (t.send session l = if er ≠ 0 then (t, er) else ({ t with way := (t.way.send (be 2 session ++ x)).1 }, (t.way.send (be 2 session ++ x)).2)) := by
    show _ = _
    rw [Tn.send, her, hx]
  rw [HS.out]
  rw [her, hx] at HP
  clear her hx hb hd hc hz hs HS
  generalize l.length = ln at *
  by_cases t0 : er = 0
  · subst t0
    rw [if_neg (by simp)]
    have hxz := HX.out rfl
    have hbz : (be 2 session).size = 2 := be_size 2 session
    generalize be 2 session = y at *
    generalize hq : t.way.send (y ++ x) = q at *
    have HQ := Lib.hid hq
    obtain ⟨q1, q2⟩ := q
    dsimp only
    clear hq
    go_enter Tryz.func38, Tryz.ntmps38
    go_wp2_with fail
    refine HP.out.mono ?_
    rintro e w1 ⟨rfl, hu1⟩
    have c9 := (HB.out.upd hu1 (by simp)).cell 9
    simp [Tn.cells] at c9
    have HU1 := Lib.hid hu1
    clear hu1 c1
    go_wp2_with fail
    refine wp_region_chain [some (.pointer (some ⟨b, 0, none⟩)), some (.pointer (some ⟨b, 0, none⟩)), some (.pointer (some ⟨b, 9, none⟩)), some (.pointer (some ⟨bw, 0, none⟩)), some (.int .i64 session), some (.string y), some (.string x), some (.string (y ++ x)), some (.int .i64 q2), some (.int .i64 q2)] [8] (sndA w1 bw ow q1) [(0, 0), (0, 0), (0, 0), (0, 0), (0, 0), (0, 0), (0, 0), (0, 0), (0, 0), (1, 1)] (by kernel_rfl) (by kernel_rfl) (by kernel_rfl) (by kernel_rfl) (by kernel_rfl) (by kernel_rfl) (((Upd.refl [] _).drew)) ?_ ?_
    · refine StepsC.cons ?_ (StepsC.cons ?_ (StepsC.cons ?_ (StepsC.cons ?_ (StepsC.cons ?_ (StepsC.cons ?_ (StepsC.cons ?_ (StepsC.cons ?_ (StepsC.cons ?_ (StepsC.cons ?_ StepsC.nil)))))))))
      · refine chain_is _ (.inl rfl) ⟨_, rfl⟩ (by kernel_rfl) rfl ?_
        intro a W kst l0 h0 A0 hF hD
        have k0 : kst = 0 := Nat.le_antisymm h0 l0
        subst k0
        clear l0 h0
        have e0 : a.tmps[0]?.getD undef = _ := (ev a 0).symm.trans (hF 0 (by kernel_rfl))
        clear hF hD
        go_simp
      · refine chain_is _ (.inl rfl) ⟨_, rfl⟩ (by kernel_rfl) rfl ?_
        intro a W kst l0 h0 A0 hF hD
        have k0 : kst = 0 := Nat.le_antisymm h0 l0
        subst k0
        clear l0 h0
        have e22 : a.tmps[22]?.getD undef = .pointer (some ⟨b, 0, none⟩) := (ev a 22).symm.trans (hD _ (Array.mem_of_getElem? (i := 0) rfl) rfl)
        clear hF hD
        go_simp
      · refine chain_is _ (.inl rfl) ⟨_, rfl⟩ (by kernel_rfl) rfl ?_
        intro a W kst l0 h0 A0 hF hD
        have k0 : kst = 0 := Nat.le_antisymm h0 l0
        subst k0
        clear l0 h0
        have e23 : a.tmps[23]?.getD undef = .pointer (some ⟨b, 0, none⟩) := (ev a 23).symm.trans (hD _ (Array.mem_of_getElem? (i := 0) rfl) rfl)
        clear hF hD
        go_simp
      · refine chain_is _ (.inl rfl) ⟨_, rfl⟩ (by kernel_rfl) rfl ?_
        intro a W kst l0 h0 A0 hF hD
        have k0 : kst = 0 := Nat.le_antisymm h0 l0
        subst k0
        clear l0 h0
        have e24 : a.tmps[24]?.getD undef = .pointer (some ⟨b, 9, none⟩) := (ev a 24).symm.trans (hD _ (Array.mem_of_getElem? (i := 0) rfl) rfl)
        clear hF hD
        have hu : Upd [] w1 W := A0
        have g2 := (HB.out.upd (HU1.out.trans hu) (by simp)).cell 9
        simp [Tn.cells] at g2
        go_simp
      · refine chain_is _ (.inl rfl) ⟨_, rfl⟩ (by kernel_rfl) rfl ?_
        intro a W kst l0 h0 A0 hF hD
        have k0 : kst = 0 := Nat.le_antisymm h0 l0
        subst k0
        clear l0 h0
        have e1 : a.tmps[1]?.getD undef = _ := (ev a 1).symm.trans (hF 1 (by kernel_rfl))
        clear hF hD
        go_simp
      · refine chain_beside _ (.inl rfl) ⟨_, rfl⟩ (by kernel_rfl) rfl ?_
        intro a W kst l0 h0 A0 hF hD
        have k0 : kst = 0 := Nat.le_antisymm h0 l0
        subst k0
        clear l0 h0
        have e26 : a.tmps[26]?.getD undef = .int .i64 session := (ev a 26).symm.trans (hD _ (Array.mem_of_getElem? (i := 0) rfl) rfl)
        clear hF hD
        have hu : Upd [] w1 W := A0
        refine ⟨_, _, by (go_simp; first | done | rfl | exact ⟨rfl, rfl⟩), ?_⟩
        refine (HW.out _).mono ?_
        rintro e wq ⟨rfl, hu2⟩
        exact ⟨rfl, hu.trans hu2⟩
      · refine chain_is _ (.inl rfl) ⟨_, rfl⟩ (by kernel_rfl) rfl ?_
        intro a W kst l0 h0 A0 hF hD
        have k0 : kst = 0 := Nat.le_antisymm h0 l0
        subst k0
        clear l0 h0
        have e7 : a.tmps[7]?.getD undef = _ := (ev a 7).symm.trans (hF 7 (by kernel_rfl))
        clear hF hD
        go_simp
      · refine chain_is _ (.inl rfl) ⟨_, rfl⟩ (by kernel_rfl) rfl ?_
        intro a W kst l0 h0 A0 hF hD
        have k0 : kst = 0 := Nat.le_antisymm h0 l0
        subst k0
        clear l0 h0
        have e27 : a.tmps[27]?.getD undef = .string y := (ev a 27).symm.trans (hD _ (Array.mem_of_getElem? (i := 0) rfl) rfl)
        have e28 : a.tmps[28]?.getD undef = .string x := (ev a 28).symm.trans (hD _ (Array.mem_of_getElem? (i := 1) rfl) rfl)
        clear hF hD
        have := run_string_add_sum (P := Tryz.prog) W y x (by omega)
        go_simp
      · refine chain_call (.inl rfl) ⟨_, rfl⟩ (by kernel_rfl) ?_
        intro a W kst l0 h0 A0 hF hD
        have k0 : kst = 0 := Nat.le_antisymm h0 l0
        subst k0
        clear l0 h0
        have e25 : a.tmps[25]?.getD undef = .pointer (some ⟨bw, 0, none⟩) := (ev a 25).symm.trans (hD _ (Array.mem_of_getElem? (i := 0) rfl) rfl)
        have e29 : a.tmps[29]?.getD undef = .string (y ++ x) := (ev a 29).symm.trans (hD _ (Array.mem_of_getElem? (i := 1) rfl) rfl)
        clear hF hD
        have hu : Upd [] w1 W := A0
        refine ⟨_, _, by (go_simp; first | done | rfl | exact ⟨rfl, rfl⟩), ?_⟩
        have hs := send_at (HC.out.keep (HU1.out.trans hu)) (y ++ x)
        rw [HQ.out] at hs
        refine hs.mono ?_
        rintro e wq ⟨rfl, ⟨ow1, k1, k2⟩, k3⟩
        exact ⟨_, rfl, rfl, ⟨ow1, k1, fun k hk => (k2 k hk).imp id (fun h => Nat.le_trans hu.size h)⟩, (hu.mono (by simp)).trans k3⟩
      · refine chain_is _ (.inl rfl) ⟨_, rfl⟩ (by kernel_rfl) rfl ?_
        intro a W kst l0 h0 A0 hF hD
        have k0 : kst = 1 := Nat.le_antisymm h0 l0
        subst k0
        clear l0 h0
        have e30 : a.tmps[30]?.getD undef = .int .i64 q2 := (ev a 30).symm.trans (hD _ (Array.mem_of_getElem? (i := 0) rfl) rfl)
        clear hF hD
        go_simp
    intro vals W hv hA
    have v0 : vals 0 = .pointer (some ⟨b, 0, none⟩) := hv 0 (by decide)
    have v1 : vals 1 = .pointer (some ⟨b, 0, none⟩) := hv 1 (by decide)
    have v2 : vals 2 = .pointer (some ⟨b, 9, none⟩) := hv 2 (by decide)
    have v3 : vals 3 = .pointer (some ⟨bw, 0, none⟩) := hv 3 (by decide)
    have v4 : vals 4 = .int .i64 session := hv 4 (by decide)
    have v5 : vals 5 = .string y := hv 5 (by decide)
    have v6 : vals 6 = .string x := hv 6 (by decide)
    have v7 : vals 7 = .string (y ++ x) := hv 7 (by decide)
    have v8 : vals 8 = .int .i64 q2 := hv 8 (by decide)
    have v9 : vals 9 = .int .i64 q2 := hv 9 (by decide)
    clear hv
    obtain ⟨⟨ow1, k1, k2⟩, k3⟩ := hA
    simp only [putAll, Act.put, Nat.zero_add, Nat.reduceAdd, v0, v1, v2, v3, v4, v5, v6, v7, v8, v9, List.setIfInBounds_toArray, List.set_cons_zero, List.set_cons_succ]
    clear v0 v1 v2 v3 v4 v5 v6 v7 v8 v9
    have HK := Lib.hid (And.intro k1 (And.intro k2 k3))
    clear k1 k2 k3 c9
    go_wp2_with fail
    go_ret
    obtain ⟨k1, k2, k3⟩ := HK.out
    have hk4 : ∀ k, k ∈ od → k ∉ ow1 := fun k hk hk1 => by
      rcases k2 k hk1 with h | h
      · exact n3 k hk h
      · have := HD.out.lt k hk; have := HU1.out.size; omega
    have hk5 : b ∉ ow1 := fun hk1 => by
      rcases k2 b hk1 with h | h
      · exact n2 h
      · have := HB.out.lt; have := HU1.out.size; omega
    have hk6 : Upd ow w W := (HU1.out.mono (by simp)).trans k3
    refine ⟨rfl, ⟨_, ⟨bd, od, bw, ow1, HB.out.upd hk6 n2, HD.out.upd hk6 n3, k1, n1, hk5, hk4, rfl⟩, ?_⟩, hk6.mono (by simp; intro x hx; simp [hx])⟩
    intro k hk
    simp only [List.mem_cons, List.mem_append] at hk ⊢
    rcases hk with rfl | hk | hk
    · simp
    · simp [hk]
    · rcases k2 k hk with h | h
      · simp [h]
      · exact .inr (Nat.le_trans HU1.out.size h)
  · rw [if_pos t0]
    dsimp only
    go_enter Tryz.func38, Tryz.ntmps38
    go_wp2_with fail
    refine HP.out.mono ?_
    rintro e w1 ⟨rfl, hu1⟩
    go_wp2_with fail
    go_ret
    exact ⟨rfl, ⟨_, HT.out.keep hu1, Grew.refl _ _⟩, hu1.mono (by simp)⟩
end Go.Proofs.YtolfjfkkbhbbbaaGreat
namespace Go.Proofs.YtolfjfkkbhbbbaaGreat
open Go.RowKit
set_option linter.unusedSimpArgs false
set_option linter.unusedVariables false
set_option maxRecDepth 20000

def Tn.ask (t : Tn) : Tn × List Av :=
  if t.secret.size = 0 then (t, []) else ({ t with asked := t.tape.str 16, tape := Tp.after 16 t.tape }, [txtAv 11 (t.tape.str 16)])

/-- A list comes back in blocks of its own; the end has moved on. -/
structure TunAvs (w : World) (b : Nat) (own : List Nat) (t : Tn) (l : List Av) (e : Ending) (w' : World) : Prop where
  ex : ∃ v ol, e = .returned v ∧ Own w' 51 5 v l.length (avCells l) ol ∧ (∀ k, k ∈ ol → w.heap.size ≤ k)
  at_ : TunAt w' b t own
  upd : Upd own w w'

set_option maxHeartbeats 2000000 in
theorem task_any {w : World} {b : Nat} {t : Tn} {own : List Nat} (h : TunAt w b t own) (ha : t.tape.asks ≤ 900000) :
    Calls Tryz.prog 39 #[.pointer (some ⟨b, 0, none⟩)] w (TunAvs w b own t.ask.1 t.ask.2) := by
  have HT := Lib.hid h
  obtain ⟨bd, od, bw, ow, hb, hd, hc, n1, n2, n3, rfl⟩ := h
  have c1 := hb.cell 1
  have c8 := hb.cell 8
  simp [Tn.cells] at c1 c8
  have HB := Lib.hid hb
  have HD := Lib.hid hd
  have HC := Lib.hid hc
  have HY := Lib.hid (bytes_any 16 (by omega) hd ha)
  clear hb hd hc
  by_cases t0 : t.secret.size = 0
  · have e0 := str_empty_t t0
    have HS : Hid (t.ask = (t, [])) := by show _ = _; rw [Tn.ask, if_pos t0]
    rw [HS.out]
    clear t0
    go_enter Tryz.func39, Tryz.ntmps39
    go_wp2_with fail
    go_ret
    exact ⟨⟨_, [], rfl, by simpa [avCells] using Own.nil _ _ _, by simp⟩, HT.out, Upd.refl _ _⟩
  · have e0 := str_empty_f t0
    have HS : Hid (t.ask = ({ t with asked := t.tape.str 16, tape := Tp.after 16 t.tape }, [txtAv 11 (t.tape.str 16)])) := by show _ = _; rw [Tn.ask, if_neg t0]
    rw [HS.out]
    dsimp only
    generalize t.tape.str 16 = y at *
    generalize Tp.after 16 t.tape = tp at *
    clear t0 HS
    go_enter Tryz.func39, Tryz.ntmps39
    go_wp2_with fail
    refine HY.out.mono ?_
    rintro e w1 ⟨rfl, hd1, hu1⟩
    have hb1 := HB.out.upd hu1 n1
    have cf := hb1.frozen 14
    have c14 := hb1.cell 14
    simp [Tn.cells] at c14
    have hb2 : Blk (w1.setCell ⟨b, 14, none⟩ (.string y)) b 70 (({ t with asked := y, tape := tp } : Tn).cells (.pointer (some ⟨bd, 0, none⟩)) (.pointer (some ⟨bw, 0, none⟩))) := (hb1.set_ 14 (.string y)).of_eq rfl
    have d14 := hb2.cell 14
    simp [Tn.cells] at d14
    have HB1 := Lib.hid hb1
    have HB2 := Lib.hid hb2
    have HD1 := Lib.hid hd1
    have HU1 := Lib.hid hu1
    clear hb1 hb2 hd1 hu1 c1 c8
    go_wp2_with fail
    refine (ttext_any 11 y _).mono ?_
    rintro e w2 ⟨rfl, hu2⟩
    have HU2 := Lib.hid hu2
    clear hu2 d14 c14 cf
    go_wp2_with fail
    go_ret
    have hA : Upd [b] w1 (w1.setCell ⟨b, 14, none⟩ (.string y)) := (Upd.refl _ _).setCell _ (.inl (by simp))
    have hB := HU2.out.alloc (Obj.cells #[.bool true, .bool false, .int .i64 0, .int .i64 11, .string y] 51)
    have ho := Own.rows_new w2 51 (size := 5) (n := 1) (cs := avCells [txtAv 11 y]) rfl (by simp [maxLen])
    have hsz : w.heap.size ≤ w2.heap.size := Nat.le_trans HU1.out.size (Nat.le_trans hA.size HU2.out.size)
    refine ⟨⟨_, _, rfl, ho, fun k hk => by simp at hk; omega⟩, ⟨bd, od, bw, ow, HB2.out.upd hB (by simp), ?_, ?_, n1, n2, n3, rfl⟩, ?_⟩
    · exact (HD1.out.upd hA (fun k hk => by simp; rintro rfl; exact n1 hk)).keep hB
    · refine ((HC.out.upd HU1.out (fun k hk hk2 => n3 k hk2 hk)).upd hA (fun k hk => by simp; rintro rfl; exact n2 hk)).keep hB
    · exact ((HU1.out.mono (by simp; intro x hx; simp [hx])).trans (hA.mono (by simp))).trans (hB.mono (by simp))
end Go.Proofs.YtolfjfkkbhbbbaaGreat
namespace Go.Proofs.YtolfjfkkbhbbbaaGreat
open Go.RowKit
set_option linter.unusedSimpArgs false
set_option linter.unusedVariables false
set_option maxRecDepth 20000

def Tn.respond (t : Tn) (by_ : Int) : List Av := if t.secret.size = 0 ∨ t.challenged = false then [] else [txtAv 13 (chapS by_ t.secret t.to_)]

/-- A list comes back in blocks of its own; nothing that was there has turned. -/
structure AvsEnd (w : World) (l : List Av) (e : Ending) (w' : World) : Prop where
  ex : ∃ v ol, e = .returned v ∧ Own w' 51 5 v l.length (avCells l) ol ∧ (∀ k, k ∈ ol → w.heap.size ≤ k)
  upd : Upd [] w w'

def rspA (w0 : World) (l : List Av) (vs : List Value) (W : World) : Prop := match vs with
  | [] => Upd [] w0 W
  | [u] => ∃ g, u = .slice (some ⟨g, 0, none⟩) 1 1 ∧ Own W 51 5 u 1 (avCells l) [g] ∧ w0.heap.size ≤ g ∧ Upd [] w0 W
  | [_, u] => ∃ g, u = .slice (some ⟨g, 0, none⟩) 1 1 ∧ Own W 51 5 u 1 (avCells l) [g] ∧ w0.heap.size ≤ g ∧ Upd [] w0 W
  | _ => False

set_option maxHeartbeats 2000000 in
theorem trespond_any {w : World} {b : Nat} {t : Tn} {own : List Nat} (h : TunAt w b t own) (by_ : Int) (hby : 0 ≤ by_ ∧ by_ < 256) (hz : t.secret.size ≤ 400000) (hz2 : t.to_.size ≤ 400000) :
    Calls Tryz.prog 103 #[.pointer (some ⟨b, 0, none⟩), .int .i64 by_] w (AvsEnd w (t.respond by_)) := by
  obtain ⟨bd, od, bw, ow, hb, -, -, -, -, -, -⟩ := h
  have c1 := hb.cell 1
  have c15 := hb.cell 15
  have c16 := hb.cell 16
  simp [Tn.cells] at c1 c15 c16
  have HB := Lib.hid hb
  have HY := Lib.hid (chap_any by_ t.secret t.to_ hby hz hz2)
  clear hb hby hz hz2
  by_cases t0 : t.secret.size = 0
  · have e0 := str_empty_t t0
    have HS : Hid (t.respond by_ = []) := by show _ = _; rw [Tn.respond, if_pos (.inl t0)]
    rw [HS.out]
    clear t0
    go_enter Tryz.func103, Tryz.ntmps103
    go_wp2_with fail
    go_ret
    exact ⟨⟨_, [], rfl, by simpa [avCells] using Own.nil _ _ _, by simp⟩, Upd.refl _ _⟩
  · have e0 := str_empty_f t0
    by_cases t1 : t.challenged = false
    · have HS : Hid (t.respond by_ = []) := by show _ = _; rw [Tn.respond, if_pos (.inr t1)]
      rw [HS.out]
      rw [t1] at c16
      clear t0
      go_enter Tryz.func103, Tryz.ntmps103
      go_wp2_with fail
      go_ret
      exact ⟨⟨_, [], rfl, by simpa [avCells] using Own.nil _ _ _, by simp⟩, Upd.refl _ _⟩
    · have HS : Hid (t.respond by_ = [txtAv 13 (chapS by_ t.secret t.to_)]) := by show _ = _; rw [Tn.respond, if_neg (fun h => h.elim t0 t1)]
      rw [HS.out]
      rw [show t.challenged = true by simpa using t1] at c16
      generalize chapS by_ t.secret t.to_ = y at *
      clear t0 t1 HS
      go_enter Tryz.func103, Tryz.ntmps103
      go_wp2_with fail
      refine wp_region_chain [some (.int .i64 by_), some (.pointer (some ⟨b, 0, none⟩)), some (.pointer (some ⟨b, 0, none⟩)), some (.pointer (some ⟨b, 0, none⟩)), some (.pointer (some ⟨b, 1, none⟩)), some (.string t.secret), some (.pointer (some ⟨b, 0, none⟩)), some (.pointer (some ⟨b, 0, none⟩)), some (.pointer (some ⟨b, 15, none⟩)), some (.string t.to_), some (.string y), some (.agg #[.bool true, .bool false, .int .i64 0, .int .i64 13, .string y]), none, none] [12,13] (rspA w [txtAv 13 y]) [(0, 0), (0, 0), (0, 0), (0, 0), (0, 0), (0, 0), (0, 0), (0, 0), (0, 0), (0, 0), (0, 0), (0, 0), (0, 0), (1, 1)] (by kernel_rfl) (by kernel_rfl) (by kernel_rfl) (by kernel_rfl) (by kernel_rfl) (by kernel_rfl) (((Upd.refl [] _).drew)) ?_ ?_
      · refine StepsC.cons ?_ (StepsC.cons ?_ (StepsC.cons ?_ (StepsC.cons ?_ (StepsC.cons ?_ (StepsC.cons ?_ (StepsC.cons ?_ (StepsC.cons ?_ (StepsC.cons ?_ (StepsC.cons ?_ (StepsC.cons ?_ (StepsC.cons ?_ (StepsC.cons ?_ (StepsC.cons ?_ StepsC.nil)))))))))))))
        · refine chain_is _ (.inl rfl) ⟨_, rfl⟩ (by kernel_rfl) rfl ?_
          intro a W kst l0 h0 A0 hF hD
          have k0 : kst = 0 := Nat.le_antisymm h0 l0
          subst k0
          clear l0 h0
          have e1 : a.tmps[1]?.getD undef = _ := (ev a 1).symm.trans (hF 1 (by kernel_rfl))
          clear hF hD
          go_simp
        · refine chain_is _ (.inl rfl) ⟨_, rfl⟩ (by kernel_rfl) rfl ?_
          intro a W kst l0 h0 A0 hF hD
          have k0 : kst = 0 := Nat.le_antisymm h0 l0
          subst k0
          clear l0 h0
          have e0 : a.tmps[0]?.getD undef = _ := (ev a 0).symm.trans (hF 0 (by kernel_rfl))
          clear hF hD
          go_simp
        · refine chain_is _ (.inl rfl) ⟨_, rfl⟩ (by kernel_rfl) rfl ?_
          intro a W kst l0 h0 A0 hF hD
          have k0 : kst = 0 := Nat.le_antisymm h0 l0
          subst k0
          clear l0 h0
          have e19 : a.tmps[19]?.getD undef = .pointer (some ⟨b, 0, none⟩) := (ev a 19).symm.trans (hD _ (Array.mem_of_getElem? (i := 0) rfl) rfl)
          clear hF hD
          go_simp
        · refine chain_is _ (.inl rfl) ⟨_, rfl⟩ (by kernel_rfl) rfl ?_
          intro a W kst l0 h0 A0 hF hD
          have k0 : kst = 0 := Nat.le_antisymm h0 l0
          subst k0
          clear l0 h0
          have e20 : a.tmps[20]?.getD undef = .pointer (some ⟨b, 0, none⟩) := (ev a 20).symm.trans (hD _ (Array.mem_of_getElem? (i := 0) rfl) rfl)
          clear hF hD
          go_simp
        · refine chain_is _ (.inl rfl) ⟨_, rfl⟩ (by kernel_rfl) rfl ?_
          intro a W kst l0 h0 A0 hF hD
          have k0 : kst = 0 := Nat.le_antisymm h0 l0
          subst k0
          clear l0 h0
          have e21 : a.tmps[21]?.getD undef = .pointer (some ⟨b, 0, none⟩) := (ev a 21).symm.trans (hD _ (Array.mem_of_getElem? (i := 0) rfl) rfl)
          clear hF hD
          go_simp
        · refine chain_is _ (.inl rfl) ⟨_, rfl⟩ (by kernel_rfl) rfl ?_
          intro a W kst l0 h0 A0 hF hD
          have k0 : kst = 0 := Nat.le_antisymm h0 l0
          subst k0
          clear l0 h0
          have e22 : a.tmps[22]?.getD undef = .pointer (some ⟨b, 1, none⟩) := (ev a 22).symm.trans (hD _ (Array.mem_of_getElem? (i := 0) rfl) rfl)
          clear hF hD
          have hu : Upd [] w W := A0
          have g2 := (HB.out.upd hu (by simp)).cell 1
          simp [Tn.cells] at g2
          go_simp
        · refine chain_is _ (.inl rfl) ⟨_, rfl⟩ (by kernel_rfl) rfl ?_
          intro a W kst l0 h0 A0 hF hD
          have k0 : kst = 0 := Nat.le_antisymm h0 l0
          subst k0
          clear l0 h0
          have e0 : a.tmps[0]?.getD undef = _ := (ev a 0).symm.trans (hF 0 (by kernel_rfl))
          clear hF hD
          go_simp
        · refine chain_is _ (.inl rfl) ⟨_, rfl⟩ (by kernel_rfl) rfl ?_
          intro a W kst l0 h0 A0 hF hD
          have k0 : kst = 0 := Nat.le_antisymm h0 l0
          subst k0
          clear l0 h0
          have e24 : a.tmps[24]?.getD undef = .pointer (some ⟨b, 0, none⟩) := (ev a 24).symm.trans (hD _ (Array.mem_of_getElem? (i := 0) rfl) rfl)
          clear hF hD
          go_simp
        · refine chain_is _ (.inl rfl) ⟨_, rfl⟩ (by kernel_rfl) rfl ?_
          intro a W kst l0 h0 A0 hF hD
          have k0 : kst = 0 := Nat.le_antisymm h0 l0
          subst k0
          clear l0 h0
          have e25 : a.tmps[25]?.getD undef = .pointer (some ⟨b, 0, none⟩) := (ev a 25).symm.trans (hD _ (Array.mem_of_getElem? (i := 0) rfl) rfl)
          clear hF hD
          go_simp
        · refine chain_is _ (.inl rfl) ⟨_, rfl⟩ (by kernel_rfl) rfl ?_
          intro a W kst l0 h0 A0 hF hD
          have k0 : kst = 0 := Nat.le_antisymm h0 l0
          subst k0
          clear l0 h0
          have e26 : a.tmps[26]?.getD undef = .pointer (some ⟨b, 15, none⟩) := (ev a 26).symm.trans (hD _ (Array.mem_of_getElem? (i := 0) rfl) rfl)
          clear hF hD
          have hu : Upd [] w W := A0
          have g2 := (HB.out.upd hu (by simp)).cell 15
          simp [Tn.cells] at g2
          go_simp
        · refine chain_beside _ (.inl rfl) ⟨_, rfl⟩ (by kernel_rfl) rfl ?_
          intro a W kst l0 h0 A0 hF hD
          have k0 : kst = 0 := Nat.le_antisymm h0 l0
          subst k0
          clear l0 h0
          have e18 : a.tmps[18]?.getD undef = .int .i64 by_ := (ev a 18).symm.trans (hD _ (Array.mem_of_getElem? (i := 0) rfl) rfl)
          have e23 : a.tmps[23]?.getD undef = .string t.secret := (ev a 23).symm.trans (hD _ (Array.mem_of_getElem? (i := 1) rfl) rfl)
          have e27 : a.tmps[27]?.getD undef = .string t.to_ := (ev a 27).symm.trans (hD _ (Array.mem_of_getElem? (i := 2) rfl) rfl)
          clear hF hD
          have hu : Upd [] w W := A0
          refine ⟨_, _, by (go_simp; first | done | rfl | exact ⟨rfl, rfl⟩), ?_⟩
          refine (HY.out _).mono ?_
          rintro e wq ⟨rfl, hu2⟩
          exact ⟨rfl, hu.trans hu2⟩
        · refine chain_beside _ (.inl rfl) ⟨_, rfl⟩ (by kernel_rfl) rfl ?_
          intro a W kst l0 h0 A0 hF hD
          have k0 : kst = 0 := Nat.le_antisymm h0 l0
          subst k0
          clear l0 h0
          have e28 : a.tmps[28]?.getD undef = .string y := (ev a 28).symm.trans (hD _ (Array.mem_of_getElem? (i := 0) rfl) rfl)
          clear hF hD
          have hu : Upd [] w W := A0
          refine ⟨_, _, by (go_simp; first | done | rfl | exact ⟨rfl, rfl⟩), ?_⟩
          refine (ttext_any 13 y _).mono ?_
          rintro e wq ⟨rfl, hu2⟩
          exact ⟨rfl, hu.trans hu2⟩
        · refine chain_run (.inl rfl) ⟨_, rfl⟩ (by kernel_rfl) ?_
          intro a W kst l0 h0 A0 hF hD
          have k0 : kst = 0 := Nat.le_antisymm h0 l0
          subst k0
          clear l0 h0
          have e29 : a.tmps[29]?.getD undef = .agg #[.bool true, .bool false, .int .i64 0, .int .i64 13, .string y] := (ev a 29).symm.trans (hD _ (Array.mem_of_getElem? (i := 0) rfl) rfl)
          clear hF hD
          have hu : Upd [] w W := A0
          refine ⟨.slice (some ⟨W.heap.size, 0, none⟩) 1 1, W.alloc (Obj.cells #[.bool true, .bool false, .int .i64 0, .int .i64 13, .string y] 51), by (go_simp; first | done | rfl), trivial, W.heap.size, rfl, ?_, hu.size, hu.alloc _⟩
          exact Own.rows_new W 51 (size := 5) (n := 1) (cs := avCells [txtAv 13 y]) rfl (by simp [maxLen])
        · refine chain_run (.inl rfl) ⟨_, rfl⟩ (by kernel_rfl) ?_
          intro a W kst l0 h0 A0 hF hD
          have k0 : kst = 1 := Nat.le_antisymm h0 l0
          subst k0
          clear l0 h0
          clear hF hD
          obtain ⟨g, hv, h1, h2, h3⟩ := A0
          have e30 : a.tmps[30]?.getD undef = _ := (ev a 30).symm.trans hv
          rw [hv] at h1
          exact ⟨.slice (some ⟨g, 0, none⟩) 1 1, W, by (go_simp; first | done | rfl), trivial, g, rfl, h1, h2, h3⟩
      intro vals W hv hA
      have v0 : vals 0 = .int .i64 by_ := hv 0 (by decide)
      have v1 : vals 1 = .pointer (some ⟨b, 0, none⟩) := hv 1 (by decide)
      have v2 : vals 2 = .pointer (some ⟨b, 0, none⟩) := hv 2 (by decide)
      have v3 : vals 3 = .pointer (some ⟨b, 0, none⟩) := hv 3 (by decide)
      have v4 : vals 4 = .pointer (some ⟨b, 1, none⟩) := hv 4 (by decide)
      have v5 : vals 5 = .string t.secret := hv 5 (by decide)
      have v6 : vals 6 = .pointer (some ⟨b, 0, none⟩) := hv 6 (by decide)
      have v7 : vals 7 = .pointer (some ⟨b, 0, none⟩) := hv 7 (by decide)
      have v8 : vals 8 = .pointer (some ⟨b, 15, none⟩) := hv 8 (by decide)
      have v9 : vals 9 = .string t.to_ := hv 9 (by decide)
      have v10 : vals 10 = .string y := hv 10 (by decide)
      have v11 : vals 11 = .agg #[.bool true, .bool false, .int .i64 0, .int .i64 13, .string y] := hv 11 (by decide)
      clear hv
      obtain ⟨g, hg, h1, h2, h3⟩ := hA
      simp only [putAll, Act.put, Nat.zero_add, Nat.reduceAdd, hg, v0, v1, v2, v3, v4, v5, v6, v7, v8, v9, v10, v11, List.setIfInBounds_toArray, List.set_cons_zero, List.set_cons_succ]
      clear v0 v1 v2 v3 v4 v5 v6 v7 v8 v9 v10 v11
      rw [hg] at h1
      have HO := Lib.hid h1
      have HU := Lib.hid h3
      clear h1 h3 hg
      go_wp2_with fail
      go_ret
      exact ⟨⟨_, [g], rfl, HO.out, fun k hk => by simp at hk; omega⟩, HU.out⟩
end Go.Proofs.YtolfjfkkbhbbbaaGreat
namespace Go.Proofs.YtolfjfkkbhbbbaaGreat
open Go.RowKit
set_option linter.unusedSimpArgs false
set_option linter.unusedVariables false
set_option maxRecDepth 20000

def Tn.saysL (t : Tn) : List Av := [numAv 2 256 2, numAv 3 3 4, txtAv 7 t.name, numAv 9 t.cid 2, numAv 10 t.window 2]
def Tn.about (t : Tn) (kind : Int) : List Av := numAv 0 kind 2 :: t.saysL

def abtA (w0 : World) (l L : List Av) (vs : List Value) (W : World) : Prop := match vs with
  | [] => Upd [] w0 W
  | [u] => ∃ g, u = .slice (some ⟨g, 0, none⟩) 5 5 ∧ AvsAt W u l ∧ Upd [] w0 W
  | [_, u] => ∃ ao cap ol, u = .slice ao 6 cap ∧ Own W 51 5 u 6 (avCells L) ol ∧ (∀ k, k ∈ ol → w0.heap.size ≤ k) ∧ Upd [] w0 W
  | [_, _, u] => ∃ ao cap ol, u = .slice ao 6 cap ∧ Own W 51 5 u 6 (avCells L) ol ∧ (∀ k, k ∈ ol → w0.heap.size ≤ k) ∧ Upd [] w0 W
  | _ => False

set_option maxHeartbeats 4000000 in
theorem tabout_any {w : World} {b : Nat} {t : Tn} {own : List Nat} (h : TunAt w b t own) (kind : Int) :
    Calls Tryz.prog 36 #[.pointer (some ⟨b, 0, none⟩), .int .i64 kind] w (AvsEnd w (t.about kind)) := by
  obtain ⟨bd, od, bw, ow, hb, -, -, -, -, -, -⟩ := h
  have HB := Lib.hid hb
  clear hb
  have HL : Hid (t.about kind = numAv 0 kind 2 :: t.saysL) := rfl
  obtain ⟨l, hl⟩ : ∃ l, t.saysL = l := ⟨_, rfl⟩
  have HLL : Hid (l = [numAv 2 256 2, numAv 3 3 4, txtAv 7 t.name, numAv 9 t.cid 2, numAv 10 t.window 2]) := hl.symm
  rw [hl] at HL
  rw [HL.out]
  clear hl HL
  go_enter Tryz.func36, Tryz.ntmps36
  go_wp2_with fail
  refine wp_region_chain [some (.int .i64 kind), some ((numAv 2 256 2).agg), some ((numAv 3 3 4).agg), some (.pointer (some ⟨b, 0, none⟩)), some (.pointer (some ⟨b, 0, none⟩)), some (.pointer (some ⟨b, 0, none⟩)), some (.pointer (some ⟨b, 0, none⟩)), some (.string t.name), some ((txtAv 7 t.name).agg), some (.pointer (some ⟨b, 0, none⟩)), some (.pointer (some ⟨b, 0, none⟩)), some (.pointer (some ⟨b, 0, none⟩)), some (.pointer (some ⟨b, 2, none⟩)), some (.int .i64 t.cid), some ((numAv 9 t.cid 2).agg), some (.pointer (some ⟨b, 0, none⟩)), some (.pointer (some ⟨b, 0, none⟩)), some (.pointer (some ⟨b, 0, none⟩)), some (.pointer (some ⟨b, 3, none⟩)), some (.int .i64 t.window), some ((numAv 10 t.window 2).agg), none, none, none] [21,22,23] (abtA w l (numAv 0 kind 2 :: l)) [(0, 1), (0, 0), (0, 0), (0, 0), (0, 0), (0, 0), (0, 0), (0, 0), (0, 0), (0, 0), (0, 0), (0, 0), (0, 0), (0, 0), (0, 0), (0, 0), (0, 0), (0, 0), (0, 0), (0, 0), (0, 0), (0, 0), (1, 1), (2, 2)] (by kernel_rfl) (by kernel_rfl) (by kernel_rfl) (by kernel_rfl) (by kernel_rfl) (by kernel_rfl) (((Upd.refl [] _).drew)) ?_ ?_
  · refine StepsC.cons ?_ (StepsC.cons ?_ (StepsC.cons ?_ (StepsC.cons ?_ (StepsC.cons ?_ (StepsC.cons ?_ (StepsC.cons ?_ (StepsC.cons ?_ (StepsC.cons ?_ (StepsC.cons ?_ (StepsC.cons ?_ (StepsC.cons ?_ (StepsC.cons ?_ (StepsC.cons ?_ (StepsC.cons ?_ (StepsC.cons ?_ (StepsC.cons ?_ (StepsC.cons ?_ (StepsC.cons ?_ (StepsC.cons ?_ (StepsC.cons ?_ (StepsC.cons ?_ (StepsC.cons ?_ (StepsC.cons ?_ StepsC.nil)))))))))))))))))))))))
    · refine chain_is _ (.inl rfl) ⟨_, rfl⟩ (by kernel_rfl) rfl ?_
      intro a W kst l0 h0 A0 hF hD
      have e1 : a.tmps[1]?.getD undef = _ := (ev a 1).symm.trans (hF 1 (by kernel_rfl))
      clear hF hD
      go_simp
    · refine chain_beside _ (.inl rfl) ⟨_, rfl⟩ (by kernel_rfl) rfl ?_
      intro a W kst l0 h0 A0 hF hD
      have k0 : kst = 0 := Nat.le_antisymm h0 l0
      subst k0
      clear l0 h0
      clear hF hD
      have hu : Upd [] w W := A0
      refine ⟨_, _, by (go_simp; first | done | rfl | exact ⟨rfl, rfl⟩), ?_⟩
      refine (num_ok 2 256 2 (by omega) _).mono ?_
      rintro e wq ⟨rfl, hu2⟩
      exact ⟨rfl, hu.trans hu2⟩
    · refine chain_beside _ (.inl rfl) ⟨_, rfl⟩ (by kernel_rfl) rfl ?_
      intro a W kst l0 h0 A0 hF hD
      have k0 : kst = 0 := Nat.le_antisymm h0 l0
      subst k0
      clear l0 h0
      clear hF hD
      have hu : Upd [] w W := A0
      refine ⟨_, _, by (go_simp; first | done | rfl | exact ⟨rfl, rfl⟩), ?_⟩
      refine (num_ok 3 3 4 (by omega) _).mono ?_
      rintro e wq ⟨rfl, hu2⟩
      exact ⟨rfl, hu.trans hu2⟩
    · refine chain_is _ (.inl rfl) ⟨_, rfl⟩ (by kernel_rfl) rfl ?_
      intro a W kst l0 h0 A0 hF hD
      have k0 : kst = 0 := Nat.le_antisymm h0 l0
      subst k0
      clear l0 h0
      have e0 : a.tmps[0]?.getD undef = _ := (ev a 0).symm.trans (hF 0 (by kernel_rfl))
      clear hF hD
      go_simp
    · refine chain_is _ (.inl rfl) ⟨_, rfl⟩ (by kernel_rfl) rfl ?_
      intro a W kst l0 h0 A0 hF hD
      have k0 : kst = 0 := Nat.le_antisymm h0 l0
      subst k0
      clear l0 h0
      have e8 : a.tmps[8]?.getD undef = .pointer (some ⟨b, 0, none⟩) := (ev a 8).symm.trans (hD _ (Array.mem_of_getElem? (i := 0) rfl) rfl)
      clear hF hD
      go_simp
    · refine chain_is _ (.inl rfl) ⟨_, rfl⟩ (by kernel_rfl) rfl ?_
      intro a W kst l0 h0 A0 hF hD
      have k0 : kst = 0 := Nat.le_antisymm h0 l0
      subst k0
      clear l0 h0
      have e9 : a.tmps[9]?.getD undef = .pointer (some ⟨b, 0, none⟩) := (ev a 9).symm.trans (hD _ (Array.mem_of_getElem? (i := 0) rfl) rfl)
      clear hF hD
      go_simp
    · refine chain_is _ (.inl rfl) ⟨_, rfl⟩ (by kernel_rfl) rfl ?_
      intro a W kst l0 h0 A0 hF hD
      have k0 : kst = 0 := Nat.le_antisymm h0 l0
      subst k0
      clear l0 h0
      have e10 : a.tmps[10]?.getD undef = .pointer (some ⟨b, 0, none⟩) := (ev a 10).symm.trans (hD _ (Array.mem_of_getElem? (i := 0) rfl) rfl)
      clear hF hD
      go_simp
    · refine chain_is _ (.inl rfl) ⟨_, rfl⟩ (by kernel_rfl) rfl ?_
      intro a W kst l0 h0 A0 hF hD
      have k0 : kst = 0 := Nat.le_antisymm h0 l0
      subst k0
      clear l0 h0
      have e11 : a.tmps[11]?.getD undef = .pointer (some ⟨b, 0, none⟩) := (ev a 11).symm.trans (hD _ (Array.mem_of_getElem? (i := 0) rfl) rfl)
      clear hF hD
      have hu : Upd [] w W := A0
      have g2 := (HB.out.upd hu (by simp)).cell 0
      simp [Tn.cells] at g2
      go_simp
    · refine chain_beside _ (.inl rfl) ⟨_, rfl⟩ (by kernel_rfl) rfl ?_
      intro a W kst l0 h0 A0 hF hD
      have k0 : kst = 0 := Nat.le_antisymm h0 l0
      subst k0
      clear l0 h0
      have e12 : a.tmps[12]?.getD undef = .string t.name := (ev a 12).symm.trans (hD _ (Array.mem_of_getElem? (i := 0) rfl) rfl)
      clear hF hD
      have hu : Upd [] w W := A0
      refine ⟨_, _, by (go_simp; first | done | rfl | exact ⟨rfl, rfl⟩), ?_⟩
      refine (ttext_any 7 t.name _).mono ?_
      rintro e wq ⟨rfl, hu2⟩
      exact ⟨rfl, hu.trans hu2⟩
    · refine chain_is _ (.inl rfl) ⟨_, rfl⟩ (by kernel_rfl) rfl ?_
      intro a W kst l0 h0 A0 hF hD
      have k0 : kst = 0 := Nat.le_antisymm h0 l0
      subst k0
      clear l0 h0
      have e0 : a.tmps[0]?.getD undef = _ := (ev a 0).symm.trans (hF 0 (by kernel_rfl))
      clear hF hD
      go_simp
    · refine chain_is _ (.inl rfl) ⟨_, rfl⟩ (by kernel_rfl) rfl ?_
      intro a W kst l0 h0 A0 hF hD
      have k0 : kst = 0 := Nat.le_antisymm h0 l0
      subst k0
      clear l0 h0
      have e14 : a.tmps[14]?.getD undef = .pointer (some ⟨b, 0, none⟩) := (ev a 14).symm.trans (hD _ (Array.mem_of_getElem? (i := 0) rfl) rfl)
      clear hF hD
      go_simp
    · refine chain_is _ (.inl rfl) ⟨_, rfl⟩ (by kernel_rfl) rfl ?_
      intro a W kst l0 h0 A0 hF hD
      have k0 : kst = 0 := Nat.le_antisymm h0 l0
      subst k0
      clear l0 h0
      have e15 : a.tmps[15]?.getD undef = .pointer (some ⟨b, 0, none⟩) := (ev a 15).symm.trans (hD _ (Array.mem_of_getElem? (i := 0) rfl) rfl)
      clear hF hD
      go_simp
    · refine chain_is _ (.inl rfl) ⟨_, rfl⟩ (by kernel_rfl) rfl ?_
      intro a W kst l0 h0 A0 hF hD
      have k0 : kst = 0 := Nat.le_antisymm h0 l0
      subst k0
      clear l0 h0
      have e16 : a.tmps[16]?.getD undef = .pointer (some ⟨b, 0, none⟩) := (ev a 16).symm.trans (hD _ (Array.mem_of_getElem? (i := 0) rfl) rfl)
      clear hF hD
      go_simp
    · refine chain_is _ (.inl rfl) ⟨_, rfl⟩ (by kernel_rfl) rfl ?_
      intro a W kst l0 h0 A0 hF hD
      have k0 : kst = 0 := Nat.le_antisymm h0 l0
      subst k0
      clear l0 h0
      have e17 : a.tmps[17]?.getD undef = .pointer (some ⟨b, 2, none⟩) := (ev a 17).symm.trans (hD _ (Array.mem_of_getElem? (i := 0) rfl) rfl)
      clear hF hD
      have hu : Upd [] w W := A0
      have g2 := (HB.out.upd hu (by simp)).cell 2
      simp [Tn.cells] at g2
      go_simp
    · refine chain_beside _ (.inl rfl) ⟨_, rfl⟩ (by kernel_rfl) rfl ?_
      intro a W kst l0 h0 A0 hF hD
      have k0 : kst = 0 := Nat.le_antisymm h0 l0
      subst k0
      clear l0 h0
      have e18 : a.tmps[18]?.getD undef = .int .i64 t.cid := (ev a 18).symm.trans (hD _ (Array.mem_of_getElem? (i := 0) rfl) rfl)
      clear hF hD
      have hu : Upd [] w W := A0
      refine ⟨_, _, by (go_simp; first | done | rfl | exact ⟨rfl, rfl⟩), ?_⟩
      refine (num_ok 9 t.cid 2 (by omega) _).mono ?_
      rintro e wq ⟨rfl, hu2⟩
      exact ⟨rfl, hu.trans hu2⟩
    · refine chain_is _ (.inl rfl) ⟨_, rfl⟩ (by kernel_rfl) rfl ?_
      intro a W kst l0 h0 A0 hF hD
      have k0 : kst = 0 := Nat.le_antisymm h0 l0
      subst k0
      clear l0 h0
      have e0 : a.tmps[0]?.getD undef = _ := (ev a 0).symm.trans (hF 0 (by kernel_rfl))
      clear hF hD
      go_simp
    · refine chain_is _ (.inl rfl) ⟨_, rfl⟩ (by kernel_rfl) rfl ?_
      intro a W kst l0 h0 A0 hF hD
      have k0 : kst = 0 := Nat.le_antisymm h0 l0
      subst k0
      clear l0 h0
      have e20 : a.tmps[20]?.getD undef = .pointer (some ⟨b, 0, none⟩) := (ev a 20).symm.trans (hD _ (Array.mem_of_getElem? (i := 0) rfl) rfl)
      clear hF hD
      go_simp
    · refine chain_is _ (.inl rfl) ⟨_, rfl⟩ (by kernel_rfl) rfl ?_
      intro a W kst l0 h0 A0 hF hD
      have k0 : kst = 0 := Nat.le_antisymm h0 l0
      subst k0
      clear l0 h0
      have e21 : a.tmps[21]?.getD undef = .pointer (some ⟨b, 0, none⟩) := (ev a 21).symm.trans (hD _ (Array.mem_of_getElem? (i := 0) rfl) rfl)
      clear hF hD
      go_simp
    · refine chain_is _ (.inl rfl) ⟨_, rfl⟩ (by kernel_rfl) rfl ?_
      intro a W kst l0 h0 A0 hF hD
      have k0 : kst = 0 := Nat.le_antisymm h0 l0
      subst k0
      clear l0 h0
      have e22 : a.tmps[22]?.getD undef = .pointer (some ⟨b, 0, none⟩) := (ev a 22).symm.trans (hD _ (Array.mem_of_getElem? (i := 0) rfl) rfl)
      clear hF hD
      go_simp
    · refine chain_is _ (.inl rfl) ⟨_, rfl⟩ (by kernel_rfl) rfl ?_
      intro a W kst l0 h0 A0 hF hD
      have k0 : kst = 0 := Nat.le_antisymm h0 l0
      subst k0
      clear l0 h0
      have e23 : a.tmps[23]?.getD undef = .pointer (some ⟨b, 3, none⟩) := (ev a 23).symm.trans (hD _ (Array.mem_of_getElem? (i := 0) rfl) rfl)
      clear hF hD
      have hu : Upd [] w W := A0
      have g2 := (HB.out.upd hu (by simp)).cell 3
      simp [Tn.cells] at g2
      go_simp
    · refine chain_beside _ (.inl rfl) ⟨_, rfl⟩ (by kernel_rfl) rfl ?_
      intro a W kst l0 h0 A0 hF hD
      have k0 : kst = 0 := Nat.le_antisymm h0 l0
      subst k0
      clear l0 h0
      have e24 : a.tmps[24]?.getD undef = .int .i64 t.window := (ev a 24).symm.trans (hD _ (Array.mem_of_getElem? (i := 0) rfl) rfl)
      clear hF hD
      have hu : Upd [] w W := A0
      refine ⟨_, _, by (go_simp; first | done | rfl | exact ⟨rfl, rfl⟩), ?_⟩
      refine (num_ok 10 t.window 2 (by omega) _).mono ?_
      rintro e wq ⟨rfl, hu2⟩
      exact ⟨rfl, hu.trans hu2⟩
    · refine chain_run (.inl rfl) ⟨_, rfl⟩ (by kernel_rfl) ?_
      intro a W kst l0 h0 A0 hF hD
      have k0 : kst = 0 := Nat.le_antisymm h0 l0
      subst k0
      clear l0 h0
      have e6 : a.tmps[6]?.getD undef = (numAv 2 256 2).agg := (ev a 6).symm.trans (hD _ (Array.mem_of_getElem? (i := 0) rfl) rfl)
      have e7 : a.tmps[7]?.getD undef = (numAv 3 3 4).agg := (ev a 7).symm.trans (hD _ (Array.mem_of_getElem? (i := 1) rfl) rfl)
      have e13 : a.tmps[13]?.getD undef = (txtAv 7 t.name).agg := (ev a 13).symm.trans (hD _ (Array.mem_of_getElem? (i := 2) rfl) rfl)
      have e19 : a.tmps[19]?.getD undef = (numAv 9 t.cid 2).agg := (ev a 19).symm.trans (hD _ (Array.mem_of_getElem? (i := 3) rfl) rfl)
      have e25 : a.tmps[25]?.getD undef = (numAv 10 t.window 2).agg := (ev a 25).symm.trans (hD _ (Array.mem_of_getElem? (i := 4) rfl) rfl)
      clear hF hD
      have hu : Upd [] w W := A0
      have ho := Own.rows_new W 51 (size := 5) (n := 5) (cs := avCells l) (by rw [HLL.out]; rfl) (by simp [maxLen])
      refine ⟨.slice (some ⟨W.heap.size, 0, none⟩) 5 5, W.alloc (Obj.cells (avCells l).toArray 51), ?_, trivial, W.heap.size, rfl, AvsAt.of_own (by rw [HLL.out]; exact HLL.out ▸ ho), hu.alloc _⟩
      rw [HLL.out]
      simp only [Av.agg, numAv, txtAv] at *
      go_simp
      rfl
    · refine chain_call (.inl rfl) ⟨_, rfl⟩ (by kernel_rfl) ?_
      intro a W kst l0 h0 A0 hF hD
      have k0 : kst = 1 := Nat.le_antisymm h0 l0
      subst k0
      clear l0 h0
      have e5 : a.tmps[5]?.getD undef = .int .i64 kind := (ev a 5).symm.trans (hD _ (Array.mem_of_getElem? (i := 0) rfl) rfl)
      clear hF hD
      obtain ⟨g, hv, h1, h2⟩ := A0
      have e26 : a.tmps[26]?.getD undef = _ := (ev a 26).symm.trans hv
      rw [hv] at h1
      refine ⟨_, _, by (go_simp; first | done | rfl | exact ⟨rfl, rfl⟩), ?_⟩
      refine (make_any kind l _ _ h1 (by rw [HLL.out]; simp)).mono ?_
      rintro e w3 ⟨u1, own1, rfl, ho1, hf1, hu2⟩
      obtain ⟨ao, cap, rfl, -, -⟩ := ho1.shape
      have h6 : 1 + l.length = 6 := by rw [HLL.out]; rfl
      rw [h6] at ho1
      exact ⟨_, rfl, trivial, ao, cap, own1, by rw [h6], by rw [h6]; exact ho1, fun k hk => Nat.le_trans h2.size (hf1 k hk), h2.trans hu2⟩
    · refine chain_run (.inl rfl) ⟨_, rfl⟩ (by kernel_rfl) ?_
      intro a W kst l0 h0 A0 hF hD
      have k0 : kst = 2 := Nat.le_antisymm h0 l0
      subst k0
      clear l0 h0
      clear hF hD
      obtain ⟨ao, cap, ol, hv, h1, h2, h3⟩ := A0
      have e27 : a.tmps[27]?.getD undef = _ := (ev a 27).symm.trans hv
      rw [hv] at h1
      exact ⟨.slice ao 6 cap, W, by (go_simp; first | done | rfl), trivial, ao, cap, ol, rfl, h1, h2, h3⟩
  intro vals W hv hA
  have v0 : vals 0 = .int .i64 kind := hv 0 (by decide)
  have v1 : vals 1 = (numAv 2 256 2).agg := hv 1 (by decide)
  have v2 : vals 2 = (numAv 3 3 4).agg := hv 2 (by decide)
  have v3 : vals 3 = .pointer (some ⟨b, 0, none⟩) := hv 3 (by decide)
  have v4 : vals 4 = .pointer (some ⟨b, 0, none⟩) := hv 4 (by decide)
  have v5 : vals 5 = .pointer (some ⟨b, 0, none⟩) := hv 5 (by decide)
  have v6 : vals 6 = .pointer (some ⟨b, 0, none⟩) := hv 6 (by decide)
  have v7 : vals 7 = .string t.name := hv 7 (by decide)
  have v8 : vals 8 = (txtAv 7 t.name).agg := hv 8 (by decide)
  have v9 : vals 9 = .pointer (some ⟨b, 0, none⟩) := hv 9 (by decide)
  have v10 : vals 10 = .pointer (some ⟨b, 0, none⟩) := hv 10 (by decide)
  have v11 : vals 11 = .pointer (some ⟨b, 0, none⟩) := hv 11 (by decide)
  have v12 : vals 12 = .pointer (some ⟨b, 2, none⟩) := hv 12 (by decide)
  have v13 : vals 13 = .int .i64 t.cid := hv 13 (by decide)
  have v14 : vals 14 = (numAv 9 t.cid 2).agg := hv 14 (by decide)
  have v15 : vals 15 = .pointer (some ⟨b, 0, none⟩) := hv 15 (by decide)
  have v16 : vals 16 = .pointer (some ⟨b, 0, none⟩) := hv 16 (by decide)
  have v17 : vals 17 = .pointer (some ⟨b, 0, none⟩) := hv 17 (by decide)
  have v18 : vals 18 = .pointer (some ⟨b, 3, none⟩) := hv 18 (by decide)
  have v19 : vals 19 = .int .i64 t.window := hv 19 (by decide)
  have v20 : vals 20 = (numAv 10 t.window 2).agg := hv 20 (by decide)
  clear hv
  obtain ⟨ao, cap, ol, hg, h1, h2, h3⟩ := hA
  simp only [putAll, Act.put, Nat.zero_add, Nat.reduceAdd, hg, v0, v1, v2, v3, v4, v5, v6, v7, v8, v9, v10, v11, v12, v13, v14, v15, v16, v17, v18, v19, v20, List.setIfInBounds_toArray, List.set_cons_zero, List.set_cons_succ]
  clear v0 v1 v2 v3 v4 v5 v6 v7 v8 v9 v10 v11 v12 v13 v14 v15 v16 v17 v18 v19 v20
  rw [hg] at h1
  have HO := Lib.hid h1
  have HU := Lib.hid h3
  have H2 := Lib.hid h2
  clear h1 h3 hg h2
  go_wp2_with fail
  go_ret
  have h6 : (numAv 0 kind 2 :: l).length = 6 := by rw [HLL.out]; rfl
  exact ⟨⟨_, ol, rfl, by rw [h6]; exact HO.out, H2.out⟩, HU.out⟩
end Go.Proofs.YtolfjfkkbhbbbaaGreat
namespace Go.Proofs.YtolfjfkkbhbbbaaGreat
open Go.RowKit
set_option linter.unusedSimpArgs false
set_option linter.unusedVariables false
set_option maxRecDepth 20000

theorem TunAt.blk {w : World} {b : Nat} {t : Tn} {own : List Nat} (h : TunAt w b t own) : ∃ vd vw, Blk w b 70 (t.cells vd vw) := by
  obtain ⟨bd, od, bw, ow, hb, -⟩ := h
  exact ⟨_, _, hb⟩
/-- A field of the end is set. -/
theorem TunAt.set {w : World} {b : Nat} {t : Tn} {own : List Nat} (h : TunAt w b t own) (i : Nat) (u : Value) (t' : Tn) (hc : ∀ vd vw, (t.cells vd vw).setIfInBounds i u = t'.cells vd vw)
    (ht : t'.tape = t.tape) (hw : t'.way = t.way) : TunAt (w.setCell ⟨b, i, none⟩ u) b t' own := by
  obtain ⟨bd, od, bw, ow, hb, hd, hcc, n1, n2, n3, rfl⟩ := h
  have hu : Upd [b] w (w.setCell ⟨b, i, none⟩ u) := (Upd.refl _ w).setCell _ (.inl (by simp))
  refine ⟨bd, od, bw, ow, (hb.set_ i u).of_eq (hc _ _), ?_, ?_, n1, n2, n3, rfl⟩
  · rw [ht]; exact hd.upd hu (fun k hk => by simp; rintro rfl; exact n1 hk)
  · rw [hw]; exact hcc.upd hu (fun k hk => by simp; rintro rfl; exact n2 hk)
theorem TunAt.mem {w : World} {b : Nat} {t : Tn} {own : List Nat} (h : TunAt w b t own) : b ∈ own := by
  obtain ⟨bd, od, bw, ow, hb, hd, hcc, n1, n2, n3, rfl⟩ := h
  simp

def Tn.endL (t : Tn) (code : Int) : List Av := [numAv 0 4 2, numAv 9 t.cid 2, numAv 1 code 2]
def Tn.end_ (t : Tn) (code : Int) : Tn := { (t.send 0 (t.endL code)).1 with state := 4 }

set_option maxHeartbeats 2000000 in
theorem tend_any {w : World} {b : Nat} {t : Tn} {own : List Nat} (h : TunAt w b t own) (code : Int) (hz : t.secret.size ≤ 400000) :
    Calls Tryz.prog 61 #[.pointer (some ⟨b, 0, none⟩), .int .i64 code] w (TunEnd w b own (t.end_ code) (.tuple #[])) := by
  have HT := Lib.hid h
  obtain ⟨vd, vw, hb⟩ := h.blk
  have c2 := hb.cell 2
  simp [Tn.cells] at c2
  obtain ⟨cid, hcid⟩ : ∃ x, t.cid = x := ⟨_, rfl⟩
  rw [hcid] at c2
  obtain ⟨l, hl⟩ : ∃ l, [numAv 9 cid 2, numAv 1 code 2] = l := ⟨_, rfl⟩
  have HL : Hid ([numAv 9 cid 2, numAv 1 code 2] = l) := hl
  have HE : Hid (t.end_ code = { (t.send 0 (numAv 0 4 2 :: l)).1 with state := 4 }) := by show _ = _; rw [Tn.end_, Tn.endL, hcid, ← hl]
  rw [HE.out]
  have HZ := Lib.hid hz
  clear hl hb h HE hz hcid
  go_enter Tryz.func61, Tryz.ntmps61
  go_wp2_with fail
  refine (num_ok 9 cid 2 (by omega) _).mono ?_
  rintro e w1 ⟨rfl, hu1⟩
  simp only [Av.agg, numAv]
  go_wp2_with fail
  refine (num_ok 1 code 2 (by omega) _).mono ?_
  rintro e w2 ⟨rfl, hu2⟩
  simp only [Av.agg, numAv]
  have HU2 := Lib.hid (hu1.trans hu2)
  clear hu1 hu2 c2
  go_wp2_with fail
  have ho := Own.rows_new w2 51 (size := 5) (n := 2) (cs := avCells l) (by rw [← HL.out]; rfl) (by simp [maxLen])
  have hrow : (avCells l).toArray = #[.bool true, .bool false, .int .i64 0, .int .i64 9, .string (be 2 cid), .bool true, .bool false, .int .i64 0, .int .i64 1, .string (be 2 code)] := by rw [← HL.out]; rfl
  rw [hrow] at ho
  have hml := make_any 4 l (.slice (some ⟨w2.heap.size, 0, none⟩) 2 2) _ (AvsAt.of_own (by rw [← HL.out]; rw [← HL.out] at ho; exact ho)) (by rw [← HL.out]; simp)
  refine hml.mono ?_
  rintro e w3 ⟨u, ol, rfl, ho3, -, hu3⟩
  have hlen : 1 + l.length = (numAv 0 4 2 :: l).length := by rw [List.length_cons, Nat.add_comm]
  rw [hlen] at ho3
  obtain ⟨ao, cap, rfl, -, -⟩ := ho3.shape
  have hUU := HU2.out.trans (((Upd.refl [] w2).alloc _).trans hu3)
  have hs := tsend_any (HT.out.keep hUU) 0 (by omega) (numAv 0 4 2 :: l) _ (AvsAt.of_own ho3) HZ.out
  have h3 : (numAv 0 4 2 :: l).length = 3 := by rw [← HL.out]; rfl
  have HH := Lib.hid hs
  have HUU := Lib.hid hUU
  rw [h3] at HH
  rw [h3]
  clear hs hUU hu3 ho3 hml ho hrow hlen h3
  go_wp2_with fail
  refine HH.out.mono ?_
  rintro e w4 ⟨rfl, ⟨own4, at4, gr4⟩, upd4⟩
  generalize (t.send 0 (numAv 0 4 2 :: l)).1 = t4 at *
  generalize (t.send 0 (numAv 0 4 2 :: l)).2 = e4 at *
  obtain ⟨vd4, vw4, hb4⟩ := at4.blk
  have cf := hb4.frozen 10
  have c10 := hb4.cell 10
  simp [Tn.cells] at c10
  have HA := Lib.hid (at4.set 10 (.int .i64 4) { t4 with state := 4 } (fun _ _ => rfl) rfl rfl)
  have HM := Lib.hid HT.out.mem
  have HG := Lib.hid gr4
  have HU4 := Lib.hid (HUU.out.mono (G := own) (by simp) |>.trans upd4)
  clear at4 hb4 gr4 upd4 HH
  go_wp2_with fail
  refine bodyPost_ret (results_none rfl _ _ _) rfl ⟨rfl, ⟨own4, HA.out, fun k hk => (HG.out k hk).imp id (fun h => Nat.le_trans HUU.out.size h)⟩, HU4.out.setCell _ (.inl HM.out)⟩
end Go.Proofs.YtolfjfkkbhbbbaaGreat
namespace Go.Proofs.YtolfjfkkbhbbbaaGreat
open Go.RowKit
set_option linter.unusedSimpArgs false
set_option linter.unusedVariables false
set_option maxRecDepth 20000

theorem tnone_at {w : World} {b : Nat} {t : Tn} {own : List Nat} (h : TunAt w b t own) :
    Calls Tryz.prog 34 #[.pointer (some ⟨b, 0, none⟩)] w fun e w' => e = .returned (.bool false) ∧ w = w' := by
  obtain ⟨bd, od, bw, ow, hb, -⟩ := h
  exact tnone_any b bw t _ w hb
theorem TunAt.state {w : World} {b : Nat} {t : Tn} {own : List Nat} (h : TunAt w b t own) : w.cell? ⟨b, 10, none⟩ = some (.int .i64 t.state) := by
  obtain ⟨vd, vw, hb⟩ := h.blk
  rw [hb.cell 10]; rfl
theorem TunAt.frozen {w : World} {b : Nat} {t : Tn} {own : List Nat} (h : TunAt w b t own) (i : Nat) : w.frozen? ⟨b, i, none⟩ = false := by
  obtain ⟨vd, vw, hb⟩ := h.blk
  exact hb.frozen i

def Tn.sendP (t : Tn) (session : Int) (l : List Av) : Tn × Int :=
  if t.state ≠ 3 then (t, 20) else if session < 0 ∨ 65535 < session then (t, 1) else t.send session l
def Tn.close (t : Tn) : Tn := if t.state = 4 then t else if t.state = 0 then { t with state := 4, told := true } else t.end_ 1

set_option maxHeartbeats 2000000 in
theorem tsendP_any {w : World} {b : Nat} {t : Tn} {own : List Nat} (h : TunAt w b t own) (session : Int) (l : List Av) (v : Value) (hl : AvsAt w v l) (hz : t.secret.size ≤ 400000) :
    Calls Tryz.prog 24 #[.pointer (some ⟨b, 0, none⟩), .int .i64 session, v] w (TunEnd w b own (t.sendP session l).1 (.int .i64 (t.sendP session l).2)) := by
  have HT := Lib.hid h
  have HL := Lib.hid hl
  have HZ := Lib.hid hz
  have HN := Lib.hid (tnone_at h)
  have cs := h.state
  obtain ⟨ao, cap, rfl, -, -, -⟩ := hl
  generalize l.length = ln at *
  clear h hz
  by_cases t0 : t.state = 3
  · by_cases t1 : session < 0
    · have HS : Hid (t.sendP session l = (t, 1)) := by show _ = _; rw [Tn.sendP, if_neg (by simp [t0]), if_pos (.inl t1)]
      rw [HS.out]
      rw [t0] at cs
      dsimp only
      clear t0 HS
      go_enter Tryz.func24, Tryz.ntmps24
      go_wp2_with fail
      refine HN.out.mono ?_
      rintro e w' ⟨rfl, rfl⟩
      go_wp2_with fail
      go_ret
      exact ⟨rfl, ⟨_, HT.out, Grew.refl _ _⟩, Upd.refl _ _⟩
    · by_cases t2 : 65535 < session
      · have HS : Hid (t.sendP session l = (t, 1)) := by show _ = _; rw [Tn.sendP, if_neg (by simp [t0]), if_pos (.inr t2)]
        rw [HS.out]
        rw [t0] at cs
        dsimp only
        clear t0 HS
        go_enter Tryz.func24, Tryz.ntmps24
        go_wp2_with fail
        refine HN.out.mono ?_
        rintro e w' ⟨rfl, rfl⟩
        go_wp2_with fail
        go_ret
        exact ⟨rfl, ⟨_, HT.out, Grew.refl _ _⟩, Upd.refl _ _⟩
      · have HS : Hid (t.sendP session l = t.send session l) := by show _ = _; rw [Tn.sendP, if_neg (by simp [t0]), if_neg (fun h => h.elim t1 t2)]
        rw [HS.out]
        rw [t0] at cs
        have HC := Lib.hid (tsend_any HT.out session (by omega) l _ HL.out HZ.out)
        generalize t.send session l = r at *
        clear t0 HS
        go_enter Tryz.func24, Tryz.ntmps24
        go_wp2_with fail
        refine HN.out.mono ?_
        rintro e w' ⟨rfl, rfl⟩
        go_wp2_with fail
        refine HC.out.mono ?_
        rintro e w4 ⟨rfl, k1, k2⟩
        go_wp2_with fail
        go_ret
        exact ⟨rfl, k1, k2⟩
  · have HS : Hid (t.sendP session l = (t, 20)) := by show _ = _; rw [Tn.sendP, if_pos t0]
    rw [HS.out]
    dsimp only
    clear HS
    go_enter Tryz.func24, Tryz.ntmps24
    go_wp2_with fail
    refine HN.out.mono ?_
    rintro e w' ⟨rfl, rfl⟩
    go_wp2_with fail
    go_ret
    exact ⟨rfl, ⟨_, HT.out, Grew.refl _ _⟩, Upd.refl _ _⟩

set_option maxHeartbeats 2000000 in
theorem tclose_any {w : World} {b : Nat} {t : Tn} {own : List Nat} (h : TunAt w b t own) (hz : t.secret.size ≤ 400000) :
    Calls Tryz.prog 30 #[.pointer (some ⟨b, 0, none⟩)] w (TunEnd w b own t.close (.tuple #[])) := by
  have HT := Lib.hid h
  have HE := Lib.hid (tend_any h 1 hz)
  have HN := Lib.hid (tnone_at h)
  have cs := h.state
  have f10 := h.frozen 10
  have f19 := h.frozen 19
  clear h hz
  by_cases t0 : t.state = 4
  · have HS : Hid (t.close = t) := by show _ = _; rw [Tn.close, if_pos t0]
    rw [HS.out]
    rw [t0] at cs
    clear t0 HS
    go_enter Tryz.func30, Tryz.ntmps30
    go_wp2_with fail
    refine HN.out.mono ?_
    rintro e w' ⟨rfl, rfl⟩
    go_wp2_with fail
    refine bodyPost_ret (results_none rfl _ _ _) rfl ⟨rfl, ⟨_, HT.out, Grew.refl _ _⟩, Upd.refl _ _⟩
  · by_cases t1 : t.state = 0
    · have HS : Hid (t.close = { t with state := 4, told := true }) := by show _ = _; rw [Tn.close, if_neg t0, if_pos t1]
      rw [HS.out]
      rw [t1] at cs
      have hA := Lib.hid ((HT.out.set 10 (.int .i64 4) { t with state := 4 } (fun _ _ => rfl) rfl rfl).set 19 (.bool true) { t with state := 4, told := true } (fun _ _ => rfl) rfl rfl)
      have hB := Lib.hid ((HT.out.set 19 (.bool true) { t with told := true } (fun _ _ => rfl) rfl rfl).set 10 (.int .i64 4) { t with state := 4, told := true } (fun _ _ => rfl) rfl rfl)
      obtain ⟨vd, vw, hb⟩ := HT.out.blk
      have c19 := hb.cell 19
      simp [Tn.cells] at c19
      have HM := Lib.hid HT.out.mem
      clear t0 t1 HS hb
      go_enter Tryz.func30, Tryz.ntmps30
      go_wp2_with fail
      refine HN.out.mono ?_
      rintro e w' ⟨rfl, rfl⟩
      go_wp2_with fail
      refine bodyPost_ret (results_none rfl _ _ _) rfl ⟨rfl, ⟨_, hA.out, Grew.refl _ _⟩, ((Upd.refl _ w).setCell _ (.inl HM.out)).setCell _ (.inl HM.out)⟩
    · have HS : Hid (t.close = t.end_ 1) := by show _ = _; rw [Tn.close, if_neg t0, if_neg t1]
      rw [HS.out]
      generalize t.end_ 1 = r at *
      clear HS
      go_enter Tryz.func30, Tryz.ntmps30
      go_wp2_with fail
      refine HN.out.mono ?_
      rintro e w' ⟨rfl, rfl⟩
      go_wp2_with fail
      refine HE.out.mono ?_
      rintro e w4 ⟨rfl, k1, k2⟩
      go_wp2_with fail
      refine bodyPost_ret (results_none rfl _ _ _) rfl ⟨rfl, k1, k2⟩
end Go.Proofs.YtolfjfkkbhbbbaaGreat
namespace Go.Proofs.YtolfjfkkbhbbbaaGreat
open Go.RowKit
set_option linter.unusedSimpArgs false
set_option linter.unusedVariables false

theorem TunAt.wayUp {w : World} {b : Nat} {t : Tn} {own : List Nat} (h : TunAt w b t own) :
    ∃ bw ow, w.cell? ⟨b, 9, none⟩ = some (.pointer (some ⟨bw, 0, none⟩)) ∧ CtlAt w bw t.way ow ∧
      ∀ w' c' ow', CtlAt w' bw c' ow' → Grew w ow ow' → Upd ow w w' → (∃ own', TunAt w' b { t with way := c' } own' ∧ Grew w own own') ∧ Upd own w w' := by
  obtain ⟨bd, od, bw, ow, hb, hd, hc, n1, n2, n3, rfl⟩ := h
  refine ⟨bw, ow, by rw [hb.cell 9]; rfl, hc, fun w' c' ow' k1 k2 k3 => ?_⟩
  have hk4 : ∀ k, k ∈ od → k ∉ ow' := fun k hk hk1 => by
    rcases k2 k hk1 with h | h
    · exact n3 k hk h
    · have := hd.lt k hk; omega
  have hk5 : b ∉ ow' := fun hk1 => by
    rcases k2 b hk1 with h | h
    · exact n2 h
    · have := hb.lt; omega
  refine ⟨⟨_, ⟨bd, od, bw, ow', hb.upd k3 n2, hd.upd k3 n3, k1, n1, hk5, hk4, rfl⟩, ?_⟩, k3.mono (by simp; intro x hx; simp [hx])⟩
  intro k hk
  simp only [List.mem_cons, List.mem_append] at hk ⊢
  rcases hk with rfl | hk | hk
  · simp
  · simp [hk]
  · rcases k2 k hk with h | h
    · simp [h]
    · exact .inr h
theorem TunAt.tapeUp {w : World} {b : Nat} {t : Tn} {own : List Nat} (h : TunAt w b t own) :
    ∃ bd od, w.cell? ⟨b, 8, none⟩ = some (.pointer (some ⟨bd, 0, none⟩)) ∧ TpAt w bd t.tape od ∧
      ∀ w' tp, TpAt w' bd tp od → Upd od w w' → TunAt w' b { t with tape := tp } own ∧ Upd own w w' := by
  obtain ⟨bd, od, bw, ow, hb, hd, hc, n1, n2, n3, rfl⟩ := h
  refine ⟨bd, od, by rw [hb.cell 8]; rfl, hd, fun w' tp k1 k2 => ?_⟩
  exact ⟨⟨bd, od, bw, ow, hb.upd k2 n1, k1, hc.upd k2 (fun k hk hk2 => n3 k hk2 hk), n1, n2, n3, rfl⟩, k2.mono (by simp; intro x hx; simp [hx])⟩
end Go.Proofs.YtolfjfkkbhbbbaaGreat
