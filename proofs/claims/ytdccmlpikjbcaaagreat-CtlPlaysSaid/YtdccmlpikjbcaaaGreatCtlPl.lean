/- WRITTEN by wip/gen/ctlpl.py. The walk of the statement CtlPlays. -/
import Derived.Test.YtdccmlpikjbcaaaGreatPlP
import Derived.Test.YtdccmlpikjbcaaaGreatRes2
import Derived.Test.YtdccmlpikjbcaaaGreatBkZ
import Derived.Deep.DeepCutAuto
import Derived.Deep.LoopGhost
import Derived.Deep.CutRange
import Derived.Deep.CutBlock
namespace Go.Proofs.YtdccmlpikjbcaaaGreat
open Go.RowKit
set_option linter.unusedSimpArgs false
set_option linter.unusedVariables false
set_option maxRecDepth 100000

def plS (w0 : World) (b b' g gO : Nat) (cs : Array Value) (c d : C) (W : World) : Prop := PlB w0 W b b' g gO cs c d
/-- Something that is done. -/
structure Pop where
  kind : Int
  n : Int
  ns : Int
  nr : Int
  body : ByteArray
def OpAt (w : World) (p : Addr) (a : Pop) : Prop :=
  w.cell? p = some (.int .i64 a.kind) ∧ w.cell? ⟨p.block, p.off + 1, none⟩ = some (.int .i64 a.n) ∧ w.cell? ⟨p.block, p.off + 2, none⟩ = some (.int .i64 a.ns) ∧ w.cell? ⟨p.block, p.off + 2 + 1, none⟩ = some (.int .i64 a.nr) ∧
  w.cell? ⟨p.block, p.off + 2 + 2, none⟩ = some (.string a.body)
theorem OpAt.upd {w w' : World} {p : Addr} {a : Pop} (h : OpAt w p a) (hu : Upd [] w w') : OpAt w' p a := by
  obtain ⟨h1, h2, h3, h4, h5⟩ := h
  exact ⟨(hu.cell (cell_lt' h1) (by simp)).trans h1, (hu.cell (cell_lt' h2) (by simp)).trans h2, (hu.cell (cell_lt' h3) (by simp)).trans h3, (hu.cell (cell_lt' h4) (by simp)).trans h4, (hu.cell (cell_lt' h5) (by simp)).trans h5⟩
def OpsAt (w : World) (v : Value) (l : List Pop) : Prop :=
  ∃ ao cap, v = .slice ao l.length cap ∧ l.length ≤ cap ∧ cap ≤ maxLen ∧ ∀ i a, l[i]? = some a → ∃ q, ao = some q ∧ OpAt w (q.add (i * 5)) a
theorem OpsAt.upd {w w' : World} {v : Value} {l : List Pop} (h : OpsAt w v l) (hu : Upd [] w w') : OpsAt w' v l := by
  obtain ⟨ao, cap, rfl, h1, h2, h3⟩ := h
  refine ⟨ao, cap, rfl, h1, h2, fun i t ht => ?_⟩
  obtain ⟨q, rfl, k⟩ := h3 i t ht
  exact ⟨q, rfl, k.upd hu⟩
def ch3 (A B D : World → Prop) (vs : List Value) (W : World) : Prop := match vs with
  | [] => A W
  | [_] => B W
  | [_, _] => D W
  | _ => False
theorem ch3.any {A B D Q : World → Prop} {vs : List Value} {W : World} (h : ch3 A B D vs W) (h1 : ∀ W, A W → Q W) (h2 : ∀ W, B W → Q W) (h3 : ∀ W, D W → Q W) : Q W := by
  match vs with
  | [] => exact h1 W h
  | [_] => exact h2 W h
  | [_, _] => exact h3 W h
  | _ :: _ :: _ :: _ => exact h.elim
theorem PlI.pl {w0 w : World} {b b' g gO : Nat} {cs : Array Value} {c d : C} {v : Value} {l : List Item} (h : PlI w0 w b b' g gO cs c d v l) : PlB w0 w b b' g gO cs c d := by
  obtain ⟨⟨own, own', RT, RI, ol, hp, _⟩, hb⟩ := h
  exact ⟨⟨own, own', RT, RI, hp⟩, hb⟩
def chT (A : World → Prop) (B : Value → World → Prop) (D : Value → Value → World → Prop) (vs : List Value) (W : World) : Prop := match vs with
  | [] => A W
  | [v] => B v W
  | [v, _] => B v W
  | [v, _, v'] => D v v' W
  | [v, _, v', x] => D v v' W ∧ x = v
  | [v, _, v', x, y] => D v v' W ∧ x = v ∧ y = v'
  | _ => False
theorem chT.any {A : World → Prop} {B : Value → World → Prop} {D : Value → Value → World → Prop} {Q : World → Prop} {vs : List Value} {W : World} (h : chT A B D vs W) (h1 : ∀ W, A W → Q W) (h2 : ∀ v W, B v W → Q W) (h3 : ∀ v v' W, D v v' W → Q W) : Q W := by
  match vs with
  | [] => exact h1 W h
  | [v] => exact h2 v W h
  | [v, _] => exact h2 v W h
  | [v, _, v'] => exact h3 v v' W h
  | [v, _, v', x] => exact h3 v v' W h.1
  | [v, _, v', x, y] => exact h3 v v' W h.1
  | _ :: _ :: _ :: _ :: _ :: _ :: _ => exact h.elim

theorem C.take_len1 (c : C) (ns nr : Int) (body : ByteArray) : (c.take ns nr body).2.length ≤ 1 := by
  unfold C.take
  (repeat' split) <;> simp
theorem items_one (l : List Item) : ∀ u ∈ items l, u.oneCell' = true := bkCItems_one l
theorem PlB.okc {w0 w : World} {b b' g gO : Nat} {cs : Array Value} {c d : C} (h : PlB w0 w b b' g gO cs c d) : c.ok := by
  obtain ⟨⟨_, _, _, _, hp⟩, -⟩ := h
  exact hp.a.ok
theorem C.outLoop_len (m : Nat) : ∀ (c : C) (l : List Item), (C.outLoop m (c, l)).2.length ≤ l.length + m ∧ (C.outLoop m (c, l)).2.length ≤ l.length + c.waits.length := by
  induction m with
  | zero => intro c l; exact ⟨Nat.le_refl _, Nat.le_add_right _ _⟩
  | succ m ih =>
    intro c l
    rw [C.outLoop]
    split
    · rename_i h
      have h1 := ih c.fly (l ++ [c.flyItem])
      have h2 : c.fly.waits.length = c.waits.length - 1 := by simp [C.fly]
      rw [h2, List.length_append, List.length_singleton] at h1
      omega
    · exact ⟨Nat.le_add_right _ _, Nat.le_add_right _ _⟩
theorem C.out_len3 {c : C} (h : c.ok) : c.out.2.length ≤ 42 := by
  have h1 := C.outAgain_len h
  have h2 := (C.outLoop_len c.waits.length c c.outAgain).1
  unfold C.out C.outEnd
  split
  · simp
  · simp only
    split <;> simp <;> omega
set_option maxHeartbeats 8000000 in
theorem ctlPlays_any (window queue retry wait first : Int) (l : List Pop) (v : Value) (w : World) (hl : OpsAt w v l) :
    Calls Tryz.prog 3 #[.int .i64 window, .int .i64 queue, .int .i64 retry, .int .i64 wait, .int .i64 first, v] w fun e w' => e = .returned (.bool true) ∧ Upd [] w w' := by
  obtain ⟨aL, capL, rfl, hlc, hcm, -⟩ := id hl
  obtain ⟨L, hL⟩ : ∃ L, L = l.length := ⟨_, rfl⟩
  rw [← hL] at hl hlc ⊢
  have HIN := Lib.hid hl
  have HLL := Lib.hid hL
  simp only [maxLen] at hcm
  clear hl hL
  by_cases t0 : (400 : Int) < L
  · go_enter Tryz.func3, Tryz.ntmps3
    go_wp2_with fail
    refine (alive_any _).mono ?_
    rintro e w2 ⟨rfl, hu2⟩
    go_wp2_with fail
    go_ret
    exact ⟨rfl, hu2⟩
  by_cases t1 : NewOk window queue retry wait first
  rotate_left
  · have HN := Lib.hid t1
    clear t1
    go_enter Tryz.func3, Tryz.ntmps3
    go_wp2_with fail
    refine (new_bad _ _ _ _ _ HN.out _).mono ?_
    rintro e w1 ⟨rfl, rfl⟩
    go_wp2_with fail
    refine (rnew_bad _ _ _ _ _ HN.out _).mono ?_
    rintro e w2 ⟨rfl, rfl⟩
    go_wp2_with fail
    refine (alive_any _).mono ?_
    rintro e w3 ⟨rfl, hu3⟩
    go_wp2_with fail
    go_ret
    exact ⟨rfl, hu3⟩
  have HN := Lib.hid t1
  clear t1
  go_enter Tryz.func3, Tryz.ntmps3
  go_wp2_with fail
  refine (new_at HN.out _).mono ?_
  rintro e w1 ⟨rfl, hc1, hu1, hs1⟩
  obtain ⟨b, hb⟩ : ∃ a, a = w.heap.size := ⟨_, rfl⟩
  rw [← hb] at hc1 hs1 ⊢
  have HC1 := Lib.hid hc1
  have HU1 := Lib.hid hu1
  have HBW : Hid (w.heap.size ≤ b) := by show _ ≤ _; omega
  clear hc1 hu1 hb
  go_wp2_with fail
  refine (rnew_at HN.out _).mono ?_
  rintro e w2 ⟨rfl, hr2, hu2, hs2⟩
  obtain ⟨b', hb'⟩ : ∃ a, a = w1.heap.size := ⟨_, rfl⟩
  rw [← hb'] at hr2 hs2 hs1 ⊢
  have HR2 := Lib.hid hr2
  have HC2 := Lib.hid (HC1.out.keep hu2)
  have HBB : Hid (w.heap.size ≤ b' ∧ b < b' ∧ b' < w2.heap.size) := by have h1 := HU1.out.size; have h2 := hu2.size; have h3 := HBW.out; exact ⟨by omega, by omega, by omega⟩
  have HU2 := Lib.hid (HU1.out.trans hu2)
  obtain ⟨c0, hc0⟩ : ∃ c0, c0 = C.new window queue retry wait first := ⟨_, rfl⟩
  rw [← hc0] at HR2 HC2
  clear hr2 hu2 hb' HC1 HU1 HN hc0 hs1 hs2
  go_wp2_with (refine wpList_build_of rfl 51 rfl bkZ (bk_build _) ?_)
  have HK0 : Hid (∃ g, g = w2.heap.size ∧ Pl w (w2.alloc (Obj.cells bkZ 51)) b b' g c0 c0 [b] [b'] [] []) := by
    refine ⟨_, rfl, (HC2.out.keep ((Upd.refl _ _).alloc _)), (HR2.out.keep ((Upd.refl _ _).alloc _)), ?_, ?_, ?_, ?_⟩
    · intro k hk; simp at hk; have := HBW.out; omega
    · intro k hk; simp at hk; have := HBB.out; omega
    · intro k hk hk2; simp at hk hk2; have := HBB.out; omega
    · exact BkTI.zero w w2 HU2.out (fun k hk => by simp at hk; have := HBB.out; omega) rfl
  generalize w2.alloc (Obj.cells bkZ 51) = w8 at *
  obtain ⟨g, hg, HK⟩ := HK0.out
  rw [← hg]
  have HK1 := Lib.hid HK
  clear HK HK0 hg HC2 HR2 HU2 HBB HBW
  go_loopg [18] L (fun mm s18 wr => ∃ (k : Nat) (c : C) (own own' : List Nat) (RT : List (Bit ByteArray)) (RI : List (Bit Item)), k + mm = L ∧ s18 = .int .i64 k ∧ Pl w wr b b' g c c own own' RT RI)
  case atStart => exact ⟨0, c0, _, _, _, _, by omega, rfl, HK1.out⟩
  case round =>
    obtain ⟨k, c, own, own', RT, RI, hk, rfl, hP⟩ := hrel
    have HP := Lib.hid hP
    have HU := Lib.hid hP.bk.ups
    clear hP HK1
    by_cases tk : k < L
    rotate_left
    · obtain rfl : k = L := by omega
      go_wp2_with fail
      refine (alive_any _).mono ?_
      rintro e w1 ⟨rfl, hu1⟩
      have HB1 := Lib.hid (HP.out.bk.upd hu1)
      clear hu1
      go_wp2_with fail
      refine (apartTI_any HB1.out).mono ?_
      rintro e w2 ⟨rfl, hu2⟩
      go_wp2_with fail
      go_ret
      exact ⟨rfl, hu2⟩
    obtain ⟨op, hop⟩ : ∃ x, l[k]? = some x := ⟨_, List.getElem?_eq_getElem (by have := HLL.out; omega)⟩
    obtain ⟨aL', capL', e0, -, -, h3⟩ := HIN.out.upd HU.out
    injection e0 with e0 e1 e2
    subst e0 e2
    clear e1
    obtain ⟨qp, rfl, hat⟩ := h3 k op hop
    obtain ⟨c0', c1, c2, c3, c4⟩ := hat
    obtain ⟨kd, nn, ns, nr, body⟩ := op
    simp only at c0' c1 c2 c3 c4
    clear h3 hop
    go_upto_region 13 with (fail)
    go_cut [19] from 64 to 213 (fun s19 V => ∃ gO, s19 = .pointer (some ⟨gO, 0, none⟩) ∧ Upd [] wr V ∧ Blk V gO 55 #[.int .i64 kd, .int .i64 nn, .int .i64 ns, .int .i64 nr, .string body])
    case first =>
      go_wp2_with fail
      go_meet
      case rel =>
        refine ⟨_, rfl, ?_, ?_⟩
        · repeat (first | exact Upd.refl _ _ | refine Upd.setCell _ ?_ (.inr (by simp)) | refine Upd.alloc _ ?_)
        · apply Blk.of_eq
          · repeat (with_reducible first | apply Blk.new | apply Blk.drewN | apply Blk.drew | apply Blk.set_)
          · rfl
    case rest =>
    obtain ⟨gO, rfl, hu3, hb3⟩ := hcut
    have HPB : Hid (PlB w wc b b' g gO #[.int .i64 kd, .int .i64 nn, .int .i64 ns, .int .i64 nr, .string body] c c) := ⟨⟨own, own', RT, RI, HP.out.keep hu3⟩, hb3⟩
    clear HP HU hu3 c0' c1 c2 c3 c4
    have d0 := hb3.cell 0
    have d1 := hb3.cell 1
    have d2 := hb3.cell 2
    have d3 := hb3.cell 3
    have d4 := hb3.cell 4
    simp only [List.size_toArray, List.length_cons, List.length_nil, List.getElem?_toArray, List.getElem?_cons_zero, List.getElem?_cons_succ] at d0 d1 d2 d3 d4
    clear hb3
    by_cases td : (2000 : Int) < body.size
    · go_wp2_with fail
      go_ret
      exact ⟨rfl, HPB.out.ups⟩
    have hbs : body.size ≤ 281474976710656 := by omega
    go_upto_block 2 with (fail)
    go_cut [] from 64 to 213 (fun V => ∃ c' : C, PlB w V b b' g gO #[.int .i64 kd, .int .i64 nn, .int .i64 ns, .int .i64 nr, .string body] c' c')
    case first =>
      by_cases k1 : kd = 1
      · have k1' : (kd == 1) = true := by simp [k1]
        clear k1
        obtain ⟨⟨c1, se⟩, hx⟩ : ∃ p, c.send body = p := ⟨_, rfl⟩
        have HS1 : Hid (∀ W, plS w b b' g gO #[.int .i64 kd, .int .i64 nn, .int .i64 ns, .int .i64 nr, .string body] c c W → Calls Tryz.prog 7 #[.pointer (some ⟨b, 0, none⟩), .string body] W fun e w' => e = .returned (.int .i64 se) ∧ plS w b b' g gO #[.int .i64 kd, .int .i64 nn, .int .i64 ns, .int .i64 nr, .string body] c1 c w') := fun W h => by have h2 := PlB.send h body; rw [hx] at h2; exact h2
        have HS2 : Hid (∀ W, plS w b b' g gO #[.int .i64 kd, .int .i64 nn, .int .i64 ns, .int .i64 nr, .string body] c1 c W → Calls Tryz.prog 8 #[.pointer (some ⟨b', 0, none⟩), .string body] W fun e w' => e = .returned (.int .i64 se) ∧ plS w b b' g gO #[.int .i64 kd, .int .i64 nn, .int .i64 ns, .int .i64 nr, .string body] c1 c1 w') := fun W h => by have h2 := PlB.rsend h body; rw [hx] at h2; exact h2
        have HBX : Hid (∀ vs W, ch3 (plS w b b' g gO #[.int .i64 kd, .int .i64 nn, .int .i64 ns, .int .i64 nr, .string body] c c) (plS w b b' g gO #[.int .i64 kd, .int .i64 nn, .int .i64 ns, .int .i64 nr, .string body] c1 c) (plS w b b' g gO #[.int .i64 kd, .int .i64 nn, .int .i64 ns, .int .i64 nr, .string body] c1 c1) vs W → Blk W gO 55 #[.int .i64 kd, .int .i64 nn, .int .i64 ns, .int .i64 nr, .string body]) := fun vs W h => h.any (fun _ h => PlB.box h) (fun _ h => PlB.box h) (fun _ h => PlB.box h)
        clear hx
        go_wp2_with fail
        refine wp_region_chain [some (.pointer (some ⟨b, 0, none⟩)), some (.pointer (some ⟨gO, 2, none⟩)), some (.pointer (some ⟨gO, 4, none⟩)), some (.string body), some (.int .i64 se), some (.pointer (some ⟨b', 0, none⟩)), some (.pointer (some ⟨gO, 2, none⟩)), some (.pointer (some ⟨gO, 4, none⟩)), some (.string body), some (.int .i64 se), some (.bool false)] [4,9] (ch3 (plS w b b' g gO #[.int .i64 kd, .int .i64 nn, .int .i64 ns, .int .i64 nr, .string body] c c) (plS w b b' g gO #[.int .i64 kd, .int .i64 nn, .int .i64 ns, .int .i64 nr, .string body] c1 c) (plS w b b' g gO #[.int .i64 kd, .int .i64 nn, .int .i64 ns, .int .i64 nr, .string body] c1 c1)) [(0, 0), (0, 0), (0, 0), (0, 0), (0, 0), (0, 1), (0, 1), (0, 1), (0, 1), (1, 1), (2, 2)] (by kernel_rfl) (by kernel_rfl) (by kernel_rfl) (by kernel_rfl) (by kernel_rfl) (by kernel_rfl) (HPB.out.keep (Upd.refl _ _).drew) ?_ ?_
        · refine StepsC.cons ?_ (StepsC.cons ?_ (StepsC.cons ?_ (StepsC.cons ?_ (StepsC.cons ?_ (StepsC.cons ?_ (StepsC.cons ?_ (StepsC.cons ?_ (StepsC.cons ?_ (StepsC.cons ?_ (StepsC.cons ?_ StepsC.nil))))))))))
          · refine chain_is _ (.inl rfl) ⟨_, rfl⟩ (by kernel_rfl) rfl ?_
            intro a W kst l0 h0 A0 hF hD
            have k0 : kst = 0 := Nat.le_antisymm h0 l0
            subst k0
            clear l0 h0
            have e13 : a.tmps[13]?.getD undef = _ := (ev a 13).symm.trans (hF 13 (by kernel_rfl))
            clear hF hD
            go_simp
          · refine chain_is _ (.inl rfl) ⟨_, rfl⟩ (by kernel_rfl) rfl ?_
            intro a W kst l0 h0 A0 hF hD
            have k0 : kst = 0 := Nat.le_antisymm h0 l0
            subst k0
            clear l0 h0
            have e19 : a.tmps[19]?.getD undef = _ := (ev a 19).symm.trans (hF 19 (by kernel_rfl))
            clear hF hD
            go_simp
          · refine chain_is _ (.inl rfl) ⟨_, rfl⟩ (by kernel_rfl) rfl ?_
            intro a W kst l0 h0 A0 hF hD
            have k0 : kst = 0 := Nat.le_antisymm h0 l0
            subst k0
            clear l0 h0
            have e112 : a.tmps[112]?.getD undef = .pointer (some ⟨gO, 2, none⟩) := (ev a 112).symm.trans (hD _ (Array.mem_of_getElem? (i := 0) rfl) rfl)
            clear hF hD
            go_simp
          · refine chain_is _ (.inl rfl) ⟨_, rfl⟩ (by kernel_rfl) rfl ?_
            intro a W kst l0 h0 A0 hF hD
            have k0 : kst = 0 := Nat.le_antisymm h0 l0
            subst k0
            clear l0 h0
            have e113 : a.tmps[113]?.getD undef = .pointer (some ⟨gO, 4, none⟩) := (ev a 113).symm.trans (hD _ (Array.mem_of_getElem? (i := 0) rfl) rfl)
            clear hF hD
            have hbx := HBX.out _ _ A0
            have d0 := hbx.cell 0
            have d1 := hbx.cell 1
            have d2 := hbx.cell 2
            have d3 := hbx.cell 3
            have d4 := hbx.cell 4
            simp only [List.size_toArray, List.length_cons, List.length_nil, List.getElem?_toArray, List.getElem?_cons_zero, List.getElem?_cons_succ] at d0 d1 d2 d3 d4
            go_simp
          · refine chain_call (.inl rfl) ⟨_, rfl⟩ (by kernel_rfl) ?_
            intro a W kst l0 h0 A0 hF hD
            have k0 : kst = 0 := Nat.le_antisymm h0 l0
            subst k0
            clear l0 h0
            have e111 : a.tmps[111]?.getD undef = .pointer (some ⟨b, 0, none⟩) := (ev a 111).symm.trans (hD _ (Array.mem_of_getElem? (i := 0) rfl) rfl)
            have e114 : a.tmps[114]?.getD undef = .string body := (ev a 114).symm.trans (hD _ (Array.mem_of_getElem? (i := 1) rfl) rfl)
            clear hF hD
            refine ⟨_, _, by (go_simp; first | done | rfl | exact ⟨rfl, rfl⟩), ?_⟩
            refine (HS1.out _ A0).mono ?_
            rintro e w2 ⟨rfl, h⟩
            exact ⟨_, rfl, rfl, h⟩
          · refine chain_is _ (.inl rfl) ⟨_, rfl⟩ (by kernel_rfl) rfl ?_
            intro a W kst l0 h0 A0 hF hD
            have e15 : a.tmps[15]?.getD undef = _ := (ev a 15).symm.trans (hF 15 (by kernel_rfl))
            clear hF hD
            go_simp
          · refine chain_is _ (.inl rfl) ⟨_, rfl⟩ (by kernel_rfl) rfl ?_
            intro a W kst l0 h0 A0 hF hD
            have e19 : a.tmps[19]?.getD undef = _ := (ev a 19).symm.trans (hF 19 (by kernel_rfl))
            clear hF hD
            go_simp
          · refine chain_is _ (.inl rfl) ⟨_, rfl⟩ (by kernel_rfl) rfl ?_
            intro a W kst l0 h0 A0 hF hD
            have e117 : a.tmps[117]?.getD undef = .pointer (some ⟨gO, 2, none⟩) := (ev a 117).symm.trans (hD _ (Array.mem_of_getElem? (i := 0) rfl) rfl)
            clear hF hD
            go_simp
          · refine chain_is _ (.inl rfl) ⟨_, rfl⟩ (by kernel_rfl) rfl ?_
            intro a W kst l0 h0 A0 hF hD
            have e118 : a.tmps[118]?.getD undef = .pointer (some ⟨gO, 4, none⟩) := (ev a 118).symm.trans (hD _ (Array.mem_of_getElem? (i := 0) rfl) rfl)
            clear hF hD
            have hbx := HBX.out _ _ A0
            have d0 := hbx.cell 0
            have d1 := hbx.cell 1
            have d2 := hbx.cell 2
            have d3 := hbx.cell 3
            have d4 := hbx.cell 4
            simp only [List.size_toArray, List.length_cons, List.length_nil, List.getElem?_toArray, List.getElem?_cons_zero, List.getElem?_cons_succ] at d0 d1 d2 d3 d4
            go_simp
          · refine chain_call (.inl rfl) ⟨_, rfl⟩ (by kernel_rfl) ?_
            intro a W kst l0 h0 A0 hF hD
            have k0 : kst = 1 := Nat.le_antisymm h0 l0
            subst k0
            clear l0 h0
            have e116 : a.tmps[116]?.getD undef = .pointer (some ⟨b', 0, none⟩) := (ev a 116).symm.trans (hD _ (Array.mem_of_getElem? (i := 0) rfl) rfl)
            have e119 : a.tmps[119]?.getD undef = .string body := (ev a 119).symm.trans (hD _ (Array.mem_of_getElem? (i := 1) rfl) rfl)
            clear hF hD
            refine ⟨_, _, by (go_simp; first | done | rfl | exact ⟨rfl, rfl⟩), ?_⟩
            refine (HS2.out _ A0).mono ?_
            rintro e w2 ⟨rfl, h⟩
            exact ⟨_, rfl, rfl, h⟩
          · refine chain_is _ (.inl rfl) ⟨_, rfl⟩ (by kernel_rfl) rfl ?_
            intro a W kst l0 h0 A0 hF hD
            have k0 : kst = 2 := Nat.le_antisymm h0 l0
            subst k0
            clear l0 h0
            have e115 : a.tmps[115]?.getD undef = .int .i64 se := (ev a 115).symm.trans (hD _ (Array.mem_of_getElem? (i := 0) rfl) rfl)
            have e120 : a.tmps[120]?.getD undef = .int .i64 se := (ev a 120).symm.trans (hD _ (Array.mem_of_getElem? (i := 1) rfl) rfl)
            clear hF hD
            go_simp
        intro vals W hv hA
        have v0 : vals 0 = .pointer (some ⟨b, 0, none⟩) := hv 0 (by decide)
        have v1 : vals 1 = .pointer (some ⟨gO, 2, none⟩) := hv 1 (by decide)
        have v2 : vals 2 = .pointer (some ⟨gO, 4, none⟩) := hv 2 (by decide)
        have v3 : vals 3 = .string body := hv 3 (by decide)
        have v4 : vals 4 = .int .i64 se := hv 4 (by decide)
        have v5 : vals 5 = .pointer (some ⟨b', 0, none⟩) := hv 5 (by decide)
        have v6 : vals 6 = .pointer (some ⟨gO, 2, none⟩) := hv 6 (by decide)
        have v7 : vals 7 = .pointer (some ⟨gO, 4, none⟩) := hv 7 (by decide)
        have v8 : vals 8 = .string body := hv 8 (by decide)
        have v9 : vals 9 = .int .i64 se := hv 9 (by decide)
        have v10 : vals 10 = .bool false := hv 10 (by decide)
        clear hv
        have hpe : plS w b b' g gO #[.int .i64 kd, .int .i64 nn, .int .i64 ns, .int .i64 nr, .string body] c1 c1 W := hA
        simp only [putAll, Act.put, Nat.zero_add, Nat.reduceAdd, v0, v1, v2, v3, v4, v5, v6, v7, v8, v9, v10, List.setIfInBounds_toArray, List.set_cons_zero, List.set_cons_succ]
        clear v0 v1 v2 v3 v4 v5 v6 v7 v8 v9 v10
        clear HS1 HS2 HBX HPB d0 d1 d2 d3 d4
        go_wp2_with fail
        go_meet
        case rel => exact ⟨c1, hpe⟩
      have k1' : (kd == 1) = false := by simpa using k1
      by_cases k2 : kd = 2
      · have k2' : (kd == 2) = true := by simp [k2]
        clear k2
        obtain ⟨⟨c1, lt⟩, hx⟩ : ∃ p, c.take ns nr body = p := ⟨_, rfl⟩
        have hlt : lt.length ≤ 1 := by have h := C.take_len1 c ns nr body; rw [hx] at h; exact h
        have HT1 : Hid (∀ W, plS w b b' g gO #[.int .i64 kd, .int .i64 nn, .int .i64 ns, .int .i64 nr, .string body] c c W → Calls Tryz.prog 9 #[.pointer (some ⟨b, 0, none⟩), .agg #[.int .i64 ns, .int .i64 nr, .string body]] W fun e w' => ∃ v, e = .returned v ∧ PlT w w' b b' g gO #[.int .i64 kd, .int .i64 nn, .int .i64 ns, .int .i64 nr, .string body] c1 c v lt) := fun W h => by have h2 := PlB.take h ns nr body hbs; rw [hx] at h2; exact h2
        have HT2 : Hid (∀ v W, PlT w W b b' g gO #[.int .i64 kd, .int .i64 nn, .int .i64 ns, .int .i64 nr, .string body] c1 c v lt → Calls Tryz.prog 10 #[.pointer (some ⟨b', 0, none⟩), .agg #[.int .i64 ns, .int .i64 nr, .string body]] W fun e w' => ∃ v', e = .returned v' ∧ PlT2 w w' b b' g gO #[.int .i64 kd, .int .i64 nn, .int .i64 ns, .int .i64 nr, .string body] c1 c1 v v' lt) := fun v W h => by have h2 := PlT.rtake h ns nr body (by rw [hx]); rw [hx] at h2; exact h2
        have HBX : Hid (∀ vs W, chT (plS w b b' g gO #[.int .i64 kd, .int .i64 nn, .int .i64 ns, .int .i64 nr, .string body] c c) (fun v W => PlT w W b b' g gO #[.int .i64 kd, .int .i64 nn, .int .i64 ns, .int .i64 nr, .string body] c1 c v lt) (fun v v' W => PlT2 w W b b' g gO #[.int .i64 kd, .int .i64 nn, .int .i64 ns, .int .i64 nr, .string body] c1 c1 v v' lt) vs W → Blk W gO 55 #[.int .i64 kd, .int .i64 nn, .int .i64 ns, .int .i64 nr, .string body]) := fun vs W h => h.any (fun _ h => PlB.box h) (fun _ _ h => PlT.box h) (fun _ _ _ h => h.t.box)
        clear hx
        go_wp2_with fail
        refine wp_region_chain [some (.pointer (some ⟨b, 0, none⟩)), some (.pointer (some ⟨gO, 2, none⟩)), some (.agg #[.int .i64 ns, .int .i64 nr, .string body]), none, some (.pointer (some ⟨b', 0, none⟩)), some (.pointer (some ⟨gO, 2, none⟩)), some (.agg #[.int .i64 ns, .int .i64 nr, .string body]), some (.agg #[.int .i64 ns, .int .i64 nr, .string body]), none, none, none] [3,7,8,9,10] (chT (plS w b b' g gO #[.int .i64 kd, .int .i64 nn, .int .i64 ns, .int .i64 nr, .string body] c c) (fun v W => PlT w W b b' g gO #[.int .i64 kd, .int .i64 nn, .int .i64 ns, .int .i64 nr, .string body] c1 c v lt) (fun v v' W => PlT2 w W b b' g gO #[.int .i64 kd, .int .i64 nn, .int .i64 ns, .int .i64 nr, .string body] c1 c1 v v' lt)) [(0, 0), (0, 0), (0, 0), (0, 0), (0, 2), (0, 1), (0, 1), (1, 1), (2, 2), (3, 3), (4, 4)] (by kernel_rfl) (by kernel_rfl) (by kernel_rfl) (by kernel_rfl) (by kernel_rfl) (by kernel_rfl) (HPB.out.keep (Upd.refl _ _).drew) ?_ ?_
        · refine StepsC.cons ?_ (StepsC.cons ?_ (StepsC.cons ?_ (StepsC.cons ?_ (StepsC.cons ?_ (StepsC.cons ?_ (StepsC.cons ?_ (StepsC.cons ?_ (StepsC.cons ?_ (StepsC.cons ?_ (StepsC.cons ?_ StepsC.nil))))))))))
          · refine chain_is _ (.inl rfl) ⟨_, rfl⟩ (by kernel_rfl) rfl ?_
            intro a W kst l0 h0 A0 hF hD
            have k0 : kst = 0 := Nat.le_antisymm h0 l0
            subst k0
            clear l0 h0
            have e13 : a.tmps[13]?.getD undef = _ := (ev a 13).symm.trans (hF 13 (by kernel_rfl))
            clear hF hD
            go_simp
          · refine chain_is _ (.inl rfl) ⟨_, rfl⟩ (by kernel_rfl) rfl ?_
            intro a W kst l0 h0 A0 hF hD
            have k0 : kst = 0 := Nat.le_antisymm h0 l0
            subst k0
            clear l0 h0
            have e19 : a.tmps[19]?.getD undef = _ := (ev a 19).symm.trans (hF 19 (by kernel_rfl))
            clear hF hD
            go_simp
          · refine chain_is _ (.inl rfl) ⟨_, rfl⟩ (by kernel_rfl) rfl ?_
            intro a W kst l0 h0 A0 hF hD
            have k0 : kst = 0 := Nat.le_antisymm h0 l0
            subst k0
            clear l0 h0
            have e125 : a.tmps[125]?.getD undef = .pointer (some ⟨gO, 2, none⟩) := (ev a 125).symm.trans (hD _ (Array.mem_of_getElem? (i := 0) rfl) rfl)
            clear hF hD
            have hbx := HBX.out _ _ A0
            have d0 := hbx.cell 0
            have d1 := hbx.cell 1
            have d2 := hbx.cell 2
            have d3 := hbx.cell 3
            have d4 := hbx.cell 4
            simp only [List.size_toArray, List.length_cons, List.length_nil, List.getElem?_toArray, List.getElem?_cons_zero, List.getElem?_cons_succ] at d0 d1 d2 d3 d4
            go_simp
          · refine chain_call (.inl rfl) ⟨_, rfl⟩ (by kernel_rfl) ?_
            intro a W kst l0 h0 A0 hF hD
            have k0 : kst = 0 := Nat.le_antisymm h0 l0
            subst k0
            clear l0 h0
            have e124 : a.tmps[124]?.getD undef = .pointer (some ⟨b, 0, none⟩) := (ev a 124).symm.trans (hD _ (Array.mem_of_getElem? (i := 0) rfl) rfl)
            have e126 : a.tmps[126]?.getD undef = .agg #[.int .i64 ns, .int .i64 nr, .string body] := (ev a 126).symm.trans (hD _ (Array.mem_of_getElem? (i := 1) rfl) rfl)
            clear hF hD
            refine ⟨_, _, by (go_simp; first | done | rfl | exact ⟨rfl, rfl⟩), ?_⟩
            refine (HT1.out _ A0).mono ?_
            rintro e w2 ⟨v, rfl, h⟩
            exact ⟨v, rfl, trivial, h⟩
          · refine chain_is _ (.inl rfl) ⟨_, rfl⟩ (by kernel_rfl) rfl ?_
            intro a W kst l0 h0 A0 hF hD
            have e15 : a.tmps[15]?.getD undef = _ := (ev a 15).symm.trans (hF 15 (by kernel_rfl))
            clear hF hD
            go_simp
          · refine chain_is _ (.inl rfl) ⟨_, rfl⟩ (by kernel_rfl) rfl ?_
            intro a W kst l0 h0 A0 hF hD
            have e19 : a.tmps[19]?.getD undef = _ := (ev a 19).symm.trans (hF 19 (by kernel_rfl))
            clear hF hD
            go_simp
          · refine chain_is _ (.inl rfl) ⟨_, rfl⟩ (by kernel_rfl) rfl ?_
            intro a W kst l0 h0 A0 hF hD
            have e129 : a.tmps[129]?.getD undef = .pointer (some ⟨gO, 2, none⟩) := (ev a 129).symm.trans (hD _ (Array.mem_of_getElem? (i := 0) rfl) rfl)
            clear hF hD
            have hbx := HBX.out _ _ A0
            have d0 := hbx.cell 0
            have d1 := hbx.cell 1
            have d2 := hbx.cell 2
            have d3 := hbx.cell 3
            have d4 := hbx.cell 4
            simp only [List.size_toArray, List.length_cons, List.length_nil, List.getElem?_toArray, List.getElem?_cons_zero, List.getElem?_cons_succ] at d0 d1 d2 d3 d4
            go_simp
          · refine chain_call (.inl rfl) ⟨_, rfl⟩ (by kernel_rfl) ?_
            intro a W kst l0 h0 A0 hF hD
            have k0 : kst = 1 := Nat.le_antisymm h0 l0
            subst k0
            clear l0 h0
            have e130 : a.tmps[130]?.getD undef = .agg #[.int .i64 ns, .int .i64 nr, .string body] := (ev a 130).symm.trans (hD _ (Array.mem_of_getElem? (i := 0) rfl) rfl)
            clear hF hD
            refine ⟨_, _, by (go_simp; first | done | rfl | exact ⟨rfl, rfl⟩), ?_⟩
            refine (plain_any _ _ _ _).mono ?_
            rintro e w2 ⟨rfl, hu⟩
            exact ⟨_, rfl, rfl, PlT.keep A0 hu⟩
          · refine chain_call (.inl rfl) ⟨_, rfl⟩ (by kernel_rfl) ?_
            intro a W kst l0 h0 A0 hF hD
            have k0 : kst = 2 := Nat.le_antisymm h0 l0
            subst k0
            clear l0 h0
            have e128 : a.tmps[128]?.getD undef = .pointer (some ⟨b', 0, none⟩) := (ev a 128).symm.trans (hD _ (Array.mem_of_getElem? (i := 0) rfl) rfl)
            have e131 : a.tmps[131]?.getD undef = .agg #[.int .i64 ns, .int .i64 nr, .string body] := (ev a 131).symm.trans (hD _ (Array.mem_of_getElem? (i := 1) rfl) rfl)
            clear hF hD
            refine ⟨_, _, by (go_simp; first | done | rfl | exact ⟨rfl, rfl⟩), ?_⟩
            refine (HT2.out _ _ A0).mono ?_
            rintro e w2 ⟨v, rfl, h⟩
            exact ⟨v, rfl, trivial, h⟩
          · refine chain_run (.inl rfl) ⟨_, rfl⟩ (by kernel_rfl) ?_
            intro a W kst l0 h0 A0 hF hD
            have k0 : kst = 3 := Nat.le_antisymm h0 l0
            subst k0
            clear l0 h0
            clear hF hD
            exact ⟨_, W, by (go_simp; first | done | rfl), trivial, A0, (ev a 127).symm⟩
          · refine chain_run (.inl rfl) ⟨_, rfl⟩ (by kernel_rfl) ?_
            intro a W kst l0 h0 A0 hF hD
            have k0 : kst = 4 := Nat.le_antisymm h0 l0
            subst k0
            clear l0 h0
            clear hF hD
            exact ⟨_, W, by (go_simp; first | done | rfl), trivial, A0.1, A0.2, (ev a 132).symm⟩
        intro vals W hv hA
        have v0 : vals 0 = .pointer (some ⟨b, 0, none⟩) := hv 0 (by decide)
        have v1 : vals 1 = .pointer (some ⟨gO, 2, none⟩) := hv 1 (by decide)
        have v2 : vals 2 = .agg #[.int .i64 ns, .int .i64 nr, .string body] := hv 2 (by decide)
        have v4 : vals 4 = .pointer (some ⟨b', 0, none⟩) := hv 4 (by decide)
        have v5 : vals 5 = .pointer (some ⟨gO, 2, none⟩) := hv 5 (by decide)
        have v6 : vals 6 = .agg #[.int .i64 ns, .int .i64 nr, .string body] := hv 6 (by decide)
        have v7 : vals 7 = .agg #[.int .i64 ns, .int .i64 nr, .string body] := hv 7 (by decide)
        clear hv
        obtain ⟨hpe, h9, h10⟩ := hA
        have v9 : vals 9 = vals 3 := h9
        have v10 : vals 10 = vals 8 := h10
        simp only [putAll, Act.put, Nat.zero_add, Nat.reduceAdd, v9, v10, v0, v1, v2, v4, v5, v6, v7, List.setIfInBounds_toArray, List.set_cons_zero, List.set_cons_succ]
        clear v0 v1 v2 v4 v5 v6 v7
        clear h9 h10 v9 v10
        generalize vals 3 = va at *
        generalize vals 8 = vb at *
        have HPE := Lib.hid hpe
        clear HT1 HT2 HBX HPB d0 d1 d2 d3 d4 hpe
        go_wp2_with fail
        refine (HPE.out.texts (by omega)).mono ?_
        rintro e w6 ⟨rfl, hpb, ⟨o1, h1⟩, o2, h2⟩
        have HPF := Lib.hid hpb
        have hr1 := h1.rdB (strs_oneCell _)
        have hr2 := h2.rdB (strs_oneCell _)
        rw [← strs_flat] at hr1 hr2
        have HR1 := Lib.hid hr1
        have HR2 := Lib.hid hr2
        clear hpb h1 h2 hr1 hr2 HPE
        go_wp2_with fail
        refine (bkSameTexts lt _ _ _ HR1.out HR2.out).mono ?_
        rintro e w7 ⟨rfl, x7, rfl⟩
        have HPG := Lib.hid (HPF.out.keep ((Upd.refl _ _).drewN x7))
        go_wp2_with fail
        go_meet
        case rel => exact ⟨c1, HPG.out⟩
      have k2' : (kd == 2) = false := by simpa using k2
      by_cases k3 : kd = 3
      · have k3' : (kd == 3) = true := by simp [k3]
        clear k3
        go_wp2_with fail
        refine (HPB.out.tick).mono ?_
        rintro e w4 ⟨rfl, h4⟩
        have H4 := Lib.hid h4
        clear h4
        go_wp2_with fail
        refine (H4.out.rtick).mono ?_
        rintro e w5 ⟨rfl, h5⟩
        have H5 := Lib.hid h5
        clear h5
        go_wp2_with fail
        go_meet
        case rel => exact ⟨_, H5.out⟩
      have k3' : (kd == 3) = false := by simpa using k3
      by_cases k5 : kd = 5
      · have k5' : (kd == 5) = true := by simp [k5]
        clear k5
        obtain ⟨⟨c1, se⟩, hx⟩ : ∃ p, c.win nn = p := ⟨_, rfl⟩
        have HS1 : Hid (∀ W, plS w b b' g gO #[.int .i64 kd, .int .i64 nn, .int .i64 ns, .int .i64 nr, .string body] c c W → Calls Tryz.prog 16 #[.pointer (some ⟨b, 0, none⟩), .int .i64 nn] W fun e w' => e = .returned (.int .i64 se) ∧ plS w b b' g gO #[.int .i64 kd, .int .i64 nn, .int .i64 ns, .int .i64 nr, .string body] c1 c w') := fun W h => by have h2 := PlB.win h nn; rw [hx] at h2; exact h2
        have HS2 : Hid (∀ W, plS w b b' g gO #[.int .i64 kd, .int .i64 nn, .int .i64 ns, .int .i64 nr, .string body] c1 c W → Calls Tryz.prog 17 #[.pointer (some ⟨b', 0, none⟩), .int .i64 nn] W fun e w' => e = .returned (.int .i64 se) ∧ plS w b b' g gO #[.int .i64 kd, .int .i64 nn, .int .i64 ns, .int .i64 nr, .string body] c1 c1 w') := fun W h => by have h2 := PlB.rwin h nn; rw [hx] at h2; exact h2
        have HBX : Hid (∀ vs W, ch3 (plS w b b' g gO #[.int .i64 kd, .int .i64 nn, .int .i64 ns, .int .i64 nr, .string body] c c) (plS w b b' g gO #[.int .i64 kd, .int .i64 nn, .int .i64 ns, .int .i64 nr, .string body] c1 c) (plS w b b' g gO #[.int .i64 kd, .int .i64 nn, .int .i64 ns, .int .i64 nr, .string body] c1 c1) vs W → Blk W gO 55 #[.int .i64 kd, .int .i64 nn, .int .i64 ns, .int .i64 nr, .string body]) := fun vs W h => h.any (fun _ h => PlB.box h) (fun _ h => PlB.box h) (fun _ h => PlB.box h)
        clear hx
        go_wp2_with fail
        refine wp_region_chain [some (.pointer (some ⟨b, 0, none⟩)), some (.pointer (some ⟨gO, 1, none⟩)), some (.int .i64 nn), some (.int .i64 se), some (.pointer (some ⟨b', 0, none⟩)), some (.pointer (some ⟨gO, 1, none⟩)), some (.int .i64 nn), some (.int .i64 se), some (.bool false)] [3,7] (ch3 (plS w b b' g gO #[.int .i64 kd, .int .i64 nn, .int .i64 ns, .int .i64 nr, .string body] c c) (plS w b b' g gO #[.int .i64 kd, .int .i64 nn, .int .i64 ns, .int .i64 nr, .string body] c1 c) (plS w b b' g gO #[.int .i64 kd, .int .i64 nn, .int .i64 ns, .int .i64 nr, .string body] c1 c1)) [(0, 0), (0, 0), (0, 0), (0, 0), (0, 1), (0, 1), (0, 1), (1, 1), (2, 2)] (by kernel_rfl) (by kernel_rfl) (by kernel_rfl) (by kernel_rfl) (by kernel_rfl) (by kernel_rfl) (HPB.out.keep (Upd.refl _ _).drew) ?_ ?_
        · refine StepsC.cons ?_ (StepsC.cons ?_ (StepsC.cons ?_ (StepsC.cons ?_ (StepsC.cons ?_ (StepsC.cons ?_ (StepsC.cons ?_ (StepsC.cons ?_ (StepsC.cons ?_ StepsC.nil))))))))
          · refine chain_is _ (.inl rfl) ⟨_, rfl⟩ (by kernel_rfl) rfl ?_
            intro a W kst l0 h0 A0 hF hD
            have k0 : kst = 0 := Nat.le_antisymm h0 l0
            subst k0
            clear l0 h0
            have e13 : a.tmps[13]?.getD undef = _ := (ev a 13).symm.trans (hF 13 (by kernel_rfl))
            clear hF hD
            go_simp
          · refine chain_is _ (.inl rfl) ⟨_, rfl⟩ (by kernel_rfl) rfl ?_
            intro a W kst l0 h0 A0 hF hD
            have k0 : kst = 0 := Nat.le_antisymm h0 l0
            subst k0
            clear l0 h0
            have e19 : a.tmps[19]?.getD undef = _ := (ev a 19).symm.trans (hF 19 (by kernel_rfl))
            clear hF hD
            go_simp
          · refine chain_is _ (.inl rfl) ⟨_, rfl⟩ (by kernel_rfl) rfl ?_
            intro a W kst l0 h0 A0 hF hD
            have k0 : kst = 0 := Nat.le_antisymm h0 l0
            subst k0
            clear l0 h0
            have e149 : a.tmps[149]?.getD undef = .pointer (some ⟨gO, 1, none⟩) := (ev a 149).symm.trans (hD _ (Array.mem_of_getElem? (i := 0) rfl) rfl)
            clear hF hD
            have hbx := HBX.out _ _ A0
            have d0 := hbx.cell 0
            have d1 := hbx.cell 1
            have d2 := hbx.cell 2
            have d3 := hbx.cell 3
            have d4 := hbx.cell 4
            simp only [List.size_toArray, List.length_cons, List.length_nil, List.getElem?_toArray, List.getElem?_cons_zero, List.getElem?_cons_succ] at d0 d1 d2 d3 d4
            go_simp
          · refine chain_call (.inl rfl) ⟨_, rfl⟩ (by kernel_rfl) ?_
            intro a W kst l0 h0 A0 hF hD
            have k0 : kst = 0 := Nat.le_antisymm h0 l0
            subst k0
            clear l0 h0
            have e148 : a.tmps[148]?.getD undef = .pointer (some ⟨b, 0, none⟩) := (ev a 148).symm.trans (hD _ (Array.mem_of_getElem? (i := 0) rfl) rfl)
            have e150 : a.tmps[150]?.getD undef = .int .i64 nn := (ev a 150).symm.trans (hD _ (Array.mem_of_getElem? (i := 1) rfl) rfl)
            clear hF hD
            refine ⟨_, _, by (go_simp; first | done | rfl | exact ⟨rfl, rfl⟩), ?_⟩
            refine (HS1.out _ A0).mono ?_
            rintro e w2 ⟨rfl, h⟩
            exact ⟨_, rfl, rfl, h⟩
          · refine chain_is _ (.inl rfl) ⟨_, rfl⟩ (by kernel_rfl) rfl ?_
            intro a W kst l0 h0 A0 hF hD
            have e15 : a.tmps[15]?.getD undef = _ := (ev a 15).symm.trans (hF 15 (by kernel_rfl))
            clear hF hD
            go_simp
          · refine chain_is _ (.inl rfl) ⟨_, rfl⟩ (by kernel_rfl) rfl ?_
            intro a W kst l0 h0 A0 hF hD
            have e19 : a.tmps[19]?.getD undef = _ := (ev a 19).symm.trans (hF 19 (by kernel_rfl))
            clear hF hD
            go_simp
          · refine chain_is _ (.inl rfl) ⟨_, rfl⟩ (by kernel_rfl) rfl ?_
            intro a W kst l0 h0 A0 hF hD
            have e153 : a.tmps[153]?.getD undef = .pointer (some ⟨gO, 1, none⟩) := (ev a 153).symm.trans (hD _ (Array.mem_of_getElem? (i := 0) rfl) rfl)
            clear hF hD
            have hbx := HBX.out _ _ A0
            have d0 := hbx.cell 0
            have d1 := hbx.cell 1
            have d2 := hbx.cell 2
            have d3 := hbx.cell 3
            have d4 := hbx.cell 4
            simp only [List.size_toArray, List.length_cons, List.length_nil, List.getElem?_toArray, List.getElem?_cons_zero, List.getElem?_cons_succ] at d0 d1 d2 d3 d4
            go_simp
          · refine chain_call (.inl rfl) ⟨_, rfl⟩ (by kernel_rfl) ?_
            intro a W kst l0 h0 A0 hF hD
            have k0 : kst = 1 := Nat.le_antisymm h0 l0
            subst k0
            clear l0 h0
            have e152 : a.tmps[152]?.getD undef = .pointer (some ⟨b', 0, none⟩) := (ev a 152).symm.trans (hD _ (Array.mem_of_getElem? (i := 0) rfl) rfl)
            have e154 : a.tmps[154]?.getD undef = .int .i64 nn := (ev a 154).symm.trans (hD _ (Array.mem_of_getElem? (i := 1) rfl) rfl)
            clear hF hD
            refine ⟨_, _, by (go_simp; first | done | rfl | exact ⟨rfl, rfl⟩), ?_⟩
            refine (HS2.out _ A0).mono ?_
            rintro e w2 ⟨rfl, h⟩
            exact ⟨_, rfl, rfl, h⟩
          · refine chain_is _ (.inl rfl) ⟨_, rfl⟩ (by kernel_rfl) rfl ?_
            intro a W kst l0 h0 A0 hF hD
            have k0 : kst = 2 := Nat.le_antisymm h0 l0
            subst k0
            clear l0 h0
            have e151 : a.tmps[151]?.getD undef = .int .i64 se := (ev a 151).symm.trans (hD _ (Array.mem_of_getElem? (i := 0) rfl) rfl)
            have e155 : a.tmps[155]?.getD undef = .int .i64 se := (ev a 155).symm.trans (hD _ (Array.mem_of_getElem? (i := 1) rfl) rfl)
            clear hF hD
            go_simp
        intro vals W hv hA
        have v0 : vals 0 = .pointer (some ⟨b, 0, none⟩) := hv 0 (by decide)
        have v1 : vals 1 = .pointer (some ⟨gO, 1, none⟩) := hv 1 (by decide)
        have v2 : vals 2 = .int .i64 nn := hv 2 (by decide)
        have v3 : vals 3 = .int .i64 se := hv 3 (by decide)
        have v4 : vals 4 = .pointer (some ⟨b', 0, none⟩) := hv 4 (by decide)
        have v5 : vals 5 = .pointer (some ⟨gO, 1, none⟩) := hv 5 (by decide)
        have v6 : vals 6 = .int .i64 nn := hv 6 (by decide)
        have v7 : vals 7 = .int .i64 se := hv 7 (by decide)
        have v8 : vals 8 = .bool false := hv 8 (by decide)
        clear hv
        have hpe : plS w b b' g gO #[.int .i64 kd, .int .i64 nn, .int .i64 ns, .int .i64 nr, .string body] c1 c1 W := hA
        simp only [putAll, Act.put, Nat.zero_add, Nat.reduceAdd, v0, v1, v2, v3, v4, v5, v6, v7, v8, List.setIfInBounds_toArray, List.set_cons_zero, List.set_cons_succ]
        clear v0 v1 v2 v3 v4 v5 v6 v7 v8
        clear HS1 HS2 HBX HPB d0 d1 d2 d3 d4
        go_wp2_with fail
        go_meet
        case rel => exact ⟨c1, hpe⟩
      have k5' : (kd == 5) = false := by simpa using k5
      clear k1 k2 k3 k5
      obtain ⟨⟨c1, li⟩, hx⟩ : ∃ p, c.out = p := ⟨_, rfl⟩
      have hli : li.length ≤ 42 := by have h := C.out_len3 HPB.out.okc; rw [hx] at h; exact h
      go_wp2_with fail
      refine (HPB.out.out).mono ?_
      rintro e w4 ⟨v4, rfl, h4⟩
      rw [hx] at h4
      have H4 := Lib.hid h4
      clear h4
      go_wp2_with fail
      refine (H4.out.rout (by rw [hx])).mono ?_
      rintro e w5 ⟨v5, rfl, h5⟩
      rw [hx] at h5
      have H5 := Lib.hid h5
      clear h5 H4 hx HPB d0 d1 d2 d3 d4
      go_wp2_with fail
      refine (H5.out.items (by omega)).mono ?_
      rintro e w6 ⟨rfl, hpb, ⟨o1, h1⟩, o2, h2⟩
      have HPF := Lib.hid hpb
      have hr1 := h1.rdB (items_one _)
      have hr2 := h2.rdB (items_one _)
      obtain ⟨a4, cp4, rfl, q1, q2⟩ := h1.shape
      obtain ⟨a5, cp5, rfl, q3, q4⟩ := h2.shape
      obtain ⟨N, hN⟩ : ∃ N, N = li.length := ⟨_, rfl⟩
      rw [← hN] at hr1 hr2 hli q1 q3
      rw [← hN]
      have HR1 := Lib.hid hr1
      have HR2 := Lib.hid hr2
      have HN := Lib.hid hN
      simp only [maxLen] at q2 q4
      clear hpb h1 h2 hr1 hr2 H5 hN
      go_wp2_with fail
      go_loopg [24] N (fun mm s24 wq => ∃ k2 : Nat, k2 + mm = N ∧ s24 = .int .i64 k2 ∧ Upd [] w6 wq)
      case atStart => exact ⟨0, by omega, rfl, Upd.refl _ _⟩
      case round =>
        obtain ⟨k9, hk9, rfl, hu9⟩ := hrel
        have HU9 := Lib.hid hu9
        by_cases t9 : k9 < N
        · obtain ⟨i, hi⟩ : ∃ x, li[k9]? = some x := by
            have := HN.out
            exact ⟨_, List.getElem?_eq_getElem (by omega)⟩
          have hcl : ∀ W, Upd [] w6 W → ∃ q q', a4 = some q ∧ a5 = some q' ∧ W.cell? (q.add (k9 * 3)) = some (.int .i64 i.ns) ∧ W.cell? ⟨(q.add (k9 * 3)).block, (q.add (k9 * 3)).off + 1, none⟩ = some (.int .i64 i.nr) ∧ W.cell? ⟨(q.add (k9 * 3)).block, (q.add (k9 * 3)).off + 2, none⟩ = some (.string i.body) ∧
              W.cell? (q'.add (k9 * 3)) = some (.int .i64 i.ns) ∧ W.cell? ⟨(q'.add (k9 * 3)).block, (q'.add (k9 * 3)).off + 1, none⟩ = some (.int .i64 i.nr) ∧ W.cell? ⟨(q'.add (k9 * 3)).block, (q'.add (k9 * 3)).off + 2, none⟩ = some (.string i.body) := by
            intro W hW
            obtain ⟨q, rfl, z0, zj⟩ := (HR1.out.upd hW).at bkCItems_len hi (by decide)
            obtain ⟨q', rfl, y0, yj⟩ := (HR2.out.upd hW).at bkCItems_len hi (by decide)
            exact ⟨q, q', rfl, rfl, z0 _ rfl, zj 1 _ (by omega) rfl, zj 2 _ (by omega) rfl, y0 _ rfl, yj 1 _ (by omega) rfl, yj 2 _ (by omega) rfl⟩
          obtain ⟨q, q', rfl, rfl, -⟩ := hcl w6 (Upd.refl _ _)
          have HCL : Hid (∀ W, Upd [] w6 W → W.cell? (q.add (k9 * 3)) = some (.int .i64 i.ns) ∧ W.cell? ⟨(q.add (k9 * 3)).block, (q.add (k9 * 3)).off + 1, none⟩ = some (.int .i64 i.nr) ∧ W.cell? ⟨(q.add (k9 * 3)).block, (q.add (k9 * 3)).off + 2, none⟩ = some (.string i.body) ∧
              W.cell? (q'.add (k9 * 3)) = some (.int .i64 i.ns) ∧ W.cell? ⟨(q'.add (k9 * 3)).block, (q'.add (k9 * 3)).off + 1, none⟩ = some (.int .i64 i.nr) ∧ W.cell? ⟨(q'.add (k9 * 3)).block, (q'.add (k9 * 3)).off + 2, none⟩ = some (.string i.body)) := by
            intro W hW
            obtain ⟨_, _, e1, e2, h⟩ := hcl W hW
            injection e1 with e1
            injection e2 with e2
            subst e1 e2
            exact h
          clear hcl hi hu9
          go_wp2_with fail
          refine wp_region_chain [some (.slice (some q) N cp4), some (.int .i64 k9), some (.pointer (some (q.add (k9 * 3)))), some (.agg #[.int .i64 i.ns, .int .i64 i.nr, .string i.body]), some (.agg #[.int .i64 i.ns, .int .i64 i.nr, .string i.body]), some (.slice (some q') N cp5), some (.int .i64 k9), some (.pointer (some (q'.add (k9 * 3)))), some (.agg #[.int .i64 i.ns, .int .i64 i.nr, .string i.body]), some (.bool false)] [4] ((fun (_ : List Value) W => Upd [] w6 W)) [(0, 0), (0, 0), (0, 0), (0, 0), (0, 0), (0, 1), (0, 1), (0, 1), (0, 1), (1, 1)] (by kernel_rfl) (by kernel_rfl) (by kernel_rfl) (by kernel_rfl) (by kernel_rfl) (by kernel_rfl) (HU9.out.trans (Upd.refl _ _).drew) ?_ ?_
          · refine StepsC.cons ?_ (StepsC.cons ?_ (StepsC.cons ?_ (StepsC.cons ?_ (StepsC.cons ?_ (StepsC.cons ?_ (StepsC.cons ?_ (StepsC.cons ?_ (StepsC.cons ?_ (StepsC.cons ?_ StepsC.nil)))))))))
            · refine chain_is _ (.inl rfl) ⟨_, rfl⟩ (by kernel_rfl) rfl ?_
              intro a W kst l0 h0 A0 hF hD
              have k0 : kst = 0 := Nat.le_antisymm h0 l0
              subst k0
              clear l0 h0
              have e22 : a.tmps[22]?.getD undef = _ := (ev a 22).symm.trans (hF 22 (by kernel_rfl))
              clear hF hD
              go_simp
            · refine chain_is _ (.inl rfl) ⟨_, rfl⟩ (by kernel_rfl) rfl ?_
              intro a W kst l0 h0 A0 hF hD
              have k0 : kst = 0 := Nat.le_antisymm h0 l0
              subst k0
              clear l0 h0
              have e24 : a.tmps[24]?.getD undef = _ := (ev a 24).symm.trans (hF 24 (by kernel_rfl))
              clear hF hD
              go_simp
            · refine chain_is _ (.inl rfl) ⟨_, rfl⟩ (by kernel_rfl) rfl ?_
              intro a W kst l0 h0 A0 hF hD
              have k0 : kst = 0 := Nat.le_antisymm h0 l0
              subst k0
              clear l0 h0
              have e99 : a.tmps[99]?.getD undef = .slice (some q) N cp4 := (ev a 99).symm.trans (hD _ (Array.mem_of_getElem? (i := 0) rfl) rfl)
              have e100 : a.tmps[100]?.getD undef = .int .i64 k9 := (ev a 100).symm.trans (hD _ (Array.mem_of_getElem? (i := 1) rfl) rfl)
              clear hF hD
              go_simp
            · refine chain_is _ (.inl rfl) ⟨_, rfl⟩ (by kernel_rfl) rfl ?_
              intro a W kst l0 h0 A0 hF hD
              have k0 : kst = 0 := Nat.le_antisymm h0 l0
              subst k0
              clear l0 h0
              have e101 : a.tmps[101]?.getD undef = .pointer (some (q.add (k9 * 3))) := (ev a 101).symm.trans (hD _ (Array.mem_of_getElem? (i := 0) rfl) rfl)
              clear hF hD
              have hc := HCL.out _ A0
              go_simp
            · refine chain_call (.inl rfl) ⟨_, rfl⟩ (by kernel_rfl) ?_
              intro a W kst l0 h0 A0 hF hD
              have k0 : kst = 0 := Nat.le_antisymm h0 l0
              subst k0
              clear l0 h0
              have e102 : a.tmps[102]?.getD undef = .agg #[.int .i64 i.ns, .int .i64 i.nr, .string i.body] := (ev a 102).symm.trans (hD _ (Array.mem_of_getElem? (i := 0) rfl) rfl)
              clear hF hD
              refine ⟨_, _, by (go_simp; first | done | rfl | exact ⟨rfl, rfl⟩), ?_⟩
              refine (plain_any _ _ _ _).mono ?_
              rintro e w2 ⟨rfl, hu⟩
              exact ⟨_, rfl, rfl, Upd.trans A0 hu⟩
            · refine chain_is _ (.inl rfl) ⟨_, rfl⟩ (by kernel_rfl) rfl ?_
              intro a W kst l0 h0 A0 hF hD
              have e23 : a.tmps[23]?.getD undef = _ := (ev a 23).symm.trans (hF 23 (by kernel_rfl))
              clear hF hD
              go_simp
            · refine chain_is _ (.inl rfl) ⟨_, rfl⟩ (by kernel_rfl) rfl ?_
              intro a W kst l0 h0 A0 hF hD
              have e24 : a.tmps[24]?.getD undef = _ := (ev a 24).symm.trans (hF 24 (by kernel_rfl))
              clear hF hD
              go_simp
            · refine chain_is _ (.inl rfl) ⟨_, rfl⟩ (by kernel_rfl) rfl ?_
              intro a W kst l0 h0 A0 hF hD
              have e104 : a.tmps[104]?.getD undef = .slice (some q') N cp5 := (ev a 104).symm.trans (hD _ (Array.mem_of_getElem? (i := 0) rfl) rfl)
              have e105 : a.tmps[105]?.getD undef = .int .i64 k9 := (ev a 105).symm.trans (hD _ (Array.mem_of_getElem? (i := 1) rfl) rfl)
              clear hF hD
              go_simp
            · refine chain_is _ (.inl rfl) ⟨_, rfl⟩ (by kernel_rfl) rfl ?_
              intro a W kst l0 h0 A0 hF hD
              have e106 : a.tmps[106]?.getD undef = .pointer (some (q'.add (k9 * 3))) := (ev a 106).symm.trans (hD _ (Array.mem_of_getElem? (i := 0) rfl) rfl)
              clear hF hD
              have hc := HCL.out _ A0
              go_simp
            · refine chain_is _ (.inl rfl) ⟨_, rfl⟩ (by kernel_rfl) rfl ?_
              intro a W kst l0 h0 A0 hF hD
              have k0 : kst = 1 := Nat.le_antisymm h0 l0
              subst k0
              clear l0 h0
              have e103 : a.tmps[103]?.getD undef = .agg #[.int .i64 i.ns, .int .i64 i.nr, .string i.body] := (ev a 103).symm.trans (hD _ (Array.mem_of_getElem? (i := 0) rfl) rfl)
              have e107 : a.tmps[107]?.getD undef = .agg #[.int .i64 i.ns, .int .i64 i.nr, .string i.body] := (ev a 107).symm.trans (hD _ (Array.mem_of_getElem? (i := 1) rfl) rfl)
              clear hF hD
              go_simp
          intro vals W hv hA
          have v0 : vals 0 = .slice (some q) N cp4 := hv 0 (by decide)
          have v1 : vals 1 = .int .i64 k9 := hv 1 (by decide)
          have v2 : vals 2 = .pointer (some (q.add (k9 * 3))) := hv 2 (by decide)
          have v3 : vals 3 = .agg #[.int .i64 i.ns, .int .i64 i.nr, .string i.body] := hv 3 (by decide)
          have v4 : vals 4 = .agg #[.int .i64 i.ns, .int .i64 i.nr, .string i.body] := hv 4 (by decide)
          have v5 : vals 5 = .slice (some q') N cp5 := hv 5 (by decide)
          have v6 : vals 6 = .int .i64 k9 := hv 6 (by decide)
          have v7 : vals 7 = .pointer (some (q'.add (k9 * 3))) := hv 7 (by decide)
          have v8 : vals 8 = .agg #[.int .i64 i.ns, .int .i64 i.nr, .string i.body] := hv 8 (by decide)
          have v9 : vals 9 = .bool false := hv 9 (by decide)
          clear hv
          have HW := Lib.hid (show Upd [] w6 W from hA)
          simp only [putAll, Act.put, Nat.zero_add, Nat.reduceAdd, v0, v1, v2, v3, v4, v5, v6, v7, v8, v9, List.setIfInBounds_toArray, List.set_cons_zero, List.set_cons_succ]
          clear v0 v1 v2 v3 v4 v5 v6 v7 v8 v9
          clear HCL
          go_wp2_with fail
          go_roundg (N - (k9 + 1))
          case rel => exact ⟨k9 + 1, by omega, by go_num, HW.out⟩
          case measure => omega
        · obtain rfl : k9 = N := by omega
          go_wp2_with fail
          go_meet
          case rel => exact ⟨c1, HPF.out.keep HU9.out⟩
    case rest =>
    obtain ⟨c', hpb⟩ := hcut
    obtain ⟨⟨own4, own5, RT4, RI4, hp⟩, hbx⟩ := id hpb
    have HPC := Lib.hid hpb
    obtain ⟨hok, vw, vf, ow, of, r1, r2, r3, r4⟩ := id hp.r
    obtain ⟨aw, cw, rfl, hw1, hw2⟩ := r2.shape
    obtain ⟨af, cf, rfl, hf1, hf2⟩ := r3.shape
    have HA := Lib.hid hp.a
    have hs1 := hok.s1
    clear HPB hbx d0 d1 d2 d3 d4 hpb
    go_wp2_with fail
    refine (next_at HA.out).mono ?_
    rintro e w6 ⟨rfl, hu6⟩
    have HPD := Lib.hid (HPC.out.keep hu6)
    have hA6 := HA.out.keep hu6
    have r6 := r1.upd hu6 (by simp)
    obtain ⟨nw, hnw⟩ : ∃ n, n = c'.waits.length := ⟨_, rfl⟩
    obtain ⟨nf, hnf⟩ : ∃ n, n = c'.flies.length := ⟨_, rfl⟩
    obtain ⟨dd, hdd⟩ : ∃ n, n = c'.dead := ⟨_, rfl⟩
    obtain ⟨sn, hsn⟩ : ∃ n, n = c'.sent := ⟨_, rfl⟩
    obtain ⟨cm, hcm⟩ : ∃ n, n = c'.came := ⟨_, rfl⟩
    obtain ⟨rm, hrm⟩ : ∃ n, n = c'.room := ⟨_, rfl⟩
    have hD : ∀ x, Calls Tryz.prog 22 #[.pointer (some ⟨b, 0, none⟩)] (w6.drewN x) fun e w' => e = .returned (.bool dd) ∧ w' = w6.drewN x := fun x => by rw [hdd]; exact same_sym (dead_at (hA6.keep ((Upd.refl _ w6).drewN x)))
    have hW : ∀ x, Calls Tryz.prog 23 #[.pointer (some ⟨b, 0, none⟩)] (w6.drewN x) fun e w' => e = .returned (.int .i64 nw) ∧ w' = w6.drewN x := fun x => by rw [hnw]; exact same_sym (waiting_at (hA6.keep ((Upd.refl _ w6).drewN x)))
    have hF : ∀ x, Calls Tryz.prog 24 #[.pointer (some ⟨b, 0, none⟩)] (w6.drewN x) fun e w' => e = .returned (.int .i64 nf) ∧ w' = w6.drewN x := fun x => by rw [hnf]; exact same_sym (flying_at (hA6.keep ((Upd.refl _ w6).drewN x)))
    have hR : ∀ x, Calls Tryz.prog 25 #[.pointer (some ⟨b, 0, none⟩)] (w6.drewN x) fun e w' => e = .returned (.int .i64 rm) ∧ w' = w6.drewN x := fun x => by rw [hrm]; exact same_sym (room_at (hA6.keep ((Upd.refl _ w6).drewN x)))
    have e4 := r6.cell 4
    have e5 := r6.cell 5
    have e6 := r6.cell 6
    have e7 := r6.cell 7
    have e8 := r6.cell 8
    have e15 := r6.cell 15
    simp [C.rcells] at e4 e5 e6 e7 e8 e15
    rw [← hnw] at e4
    rw [← hnf] at e5
    rw [← hdd] at e15
    rw [← hsn] at e6
    rw [← hcm] at e7
    rw [← hrm] at e8
    rw [← hsn, ← hcm]
    have HD := Lib.hid hD
    have HW := Lib.hid hW
    have HF := Lib.hid hF
    have HR := Lib.hid hR
    clear hD hW hF hR hA6 hnw hnf hdd hsn hcm hrm hok r1 r2 r3 r4 hp hw1 hf1 hu6 r6 hs1 HA HPC
    go_wp2_with fail
    go_quiet ((first
      | (go_at_call 22; exact Calls.quiet_of_same (HD.out _))
      | (go_at_call 23; exact Calls.quiet_of_same (HW.out _))
      | (go_at_call 24; exact Calls.quiet_of_same (HF.out _))
      | (go_at_call 25; exact Calls.quiet_of_same (HR.out _))))
    go_wp2_with fail
    go_roundg (L - (k + 1))
    case rel =>
      obtain ⟨⟨o1, o2, R1, R2, h⟩, -⟩ := HPD.out
      exact ⟨k + 1, c', o1, o2, R1, R2, by omega, by go_num, h.keep ((Upd.refl _ _).drewN _)⟩
    case measure => omega
end Go.Proofs.YtdccmlpikjbcaaaGreat
