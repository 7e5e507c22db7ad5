/- What calls say, as the book holds it; the document's Same at equal values, quietly. SameSays, quietly, at lists alike by RelSays. copySays: a fresh list of fresh lists, alike by RelSays. -/
import Derived.Test.YtglafpdealjlnaaGreatProg
import Derived.BigQuiet
import Derived.Test.YtglafpdealjlnaaGreatQBkPN
import Derived.Test.YtglafpdealjlnaaGreatQBkAvpsA
namespace Go.Proofs.YtglafpdealjlnaaGreat
open Go.RowKit
set_option linter.unusedSimpArgs false
set_option linter.unusedVariables false
set_option maxRecDepth 100000

set_option maxHeartbeats 1000000 in
theorem rsameQ18 (l : List Av) (v u : Value) (w : World) (hl : Rd w 5 v l.length (l.flatMap bkCAvps)) (hm : Rd w 5 u l.length (l.flatMap bkCAvps)) :
    Calls Tryz.prog 90 #[v, u] w fun e w' => e = .returned (.bool true) ∧ ∃ x, w' = w.drewN x := by
  obtain ⟨ao, cap, rfl, h1, h2, -⟩ := id hl
  obtain ⟨bo, cbp, rfl, g1, g2, -⟩ := id hm
  obtain ⟨n, hn⟩ : ∃ n, n = l.length := ⟨_, rfl⟩
  rw [← hn] at h1 hl g1 hm
  rw [← hn]
  have HL := Lib.hid hl
  have HM := Lib.hid hm
  have HN := Lib.hid hn
  simp only [maxLen] at h2 g2
  clear hl hn hm
  go_enter Tryz.func90, Tryz.ntmps90
  go_wp2
  go_loopg [5] n (fun x s5 wr => ∃ k : Nat, k + x = n ∧ s5 = .int .i64 k ∧ ∃ x, wr = w.drewN x)
  case atStart => exact ⟨0, by omega, rfl, 0, rfl⟩
  case round =>
    obtain ⟨k, hk, rfl, nd, rfl⟩ := hrel
    by_cases t : k < n
    · obtain ⟨x, hx⟩ : ∃ x, l[k]? = some x := by
        have := HN.out
        exact ⟨_, List.getElem?_eq_getElem (by omega)⟩
      have hu : Upd [] w (w.drewN nd) := (Upd.refl _ _).drewN _
      obtain ⟨q, rfl, z0, zj⟩ := (HL.out.upd hu).at bkCAvps_len hx (by decide)
      have c0 := z0 _ rfl
      have c1 := zj 1 _ (by omega) rfl
      have c2 := zj 2 _ (by omega) rfl
      have c3 := zj 3 _ (by omega) rfl
      have c4 := zj 4 _ (by omega) rfl
      clear z0 zj
      obtain ⟨q', rfl, z0, zj⟩ := (HM.out.upd hu).at bkCAvps_len hx (by decide)
      have d0 := z0 _ rfl
      have d1 := zj 1 _ (by omega) rfl
      have d2 := zj 2 _ (by omega) rfl
      have d3 := zj 3 _ (by omega) rfl
      have d4 := zj 4 _ (by omega) rfl
      clear z0 zj
      simp only [World.cell?_drewN] at c0 d0 c1 d1 c2 d2 c3 d3 c4 d4
      clear hu hx
      go_wp2
      go_region
      go_wp2
      go_roundg (n - (k + 1))
      case rel => exact ⟨k + 1, by omega, by go_num, nd + 1, rfl⟩
      case measure => omega
    · obtain rfl : k = n := by omega
      go_wp2
      go_ret
      exact ⟨rfl, nd, rfl⟩

structure SayR where
  ss : Int
  sl : Sl
def RelSays (w : World) (l m : List SayR) : Prop := m.length = l.length ∧ ∀ (k : Nat) (x y : SayR), l[k]? = some x → m[k]? = some y → x.ss = y.ss ∧ ∃ L, SlAt 85 w x.sl L ∧ SlAt 85 w y.sl L
theorem relSays_lasts : RelLasts RelSays 85 := fun T lo w w' l m h1 hu ⟨h0, h⟩ => ⟨h0, fun k x y hx hy => by
  obtain ⟨h2, L, h3, h4⟩ := h k x y hx hy
  exact ⟨h2, L, h3.updT hu h1, h4.updT hu h1⟩⟩
end Go.Proofs.YtglafpdealjlnaaGreat
namespace Go.Proofs.YtglafpdealjlnaaGreat
open Go.RowKit
set_option linter.unusedSimpArgs false
set_option linter.unusedVariables false
set_option maxRecDepth 100000
def bkCSays (x : SayR) : List Value := [.int .i64 x.ss, x.sl.val]
theorem bkCSays_len (x : SayR) : (bkCSays x).length = 2 := rfl
theorem avCells_bk (l : List Av) : avCells l = l.flatMap bkCAvps := by
  induction l with
  | nil => rfl
  | cons a l ih =>
    show _ = bkCAvps a ++ l.flatMap bkCAvps
    rw [← ih]
    rfl
theorem SlAt.rd {e : TypeId} {w : World} {s : Sl} {L : List Av} (h : SlAt e w s L) : Rd w 5 s.val L.length (L.flatMap bkCAvps) := by
  obtain ⟨own, h2, h3⟩ := h
  rw [← avCells_bk]
  exact Own.rdB h3 (by rw [avCells_bk]; exact bkCAvps_one L)
set_option maxHeartbeats 2000000 in
theorem bkSameSays (l m : List SayR) (v u : Value) (w : World) (hl : Rd w 2 v l.length (l.flatMap bkCSays)) (hm : Rd w 2 u m.length (m.flatMap bkCSays)) (hr : RelSays w l m) :
    Calls Tryz.prog 253 #[v, u] w fun e w' => e = .returned (.bool true) ∧ ∃ x, w' = w.drewN x := by
  obtain ⟨ao, cap, rfl, h1, h2, -⟩ := id hl
  obtain ⟨bo, cbp, rfl, g1, g2, -⟩ := id hm
  obtain ⟨n, hn⟩ : ∃ n, n = l.length := ⟨_, rfl⟩
  have hmn : m.length = n := by rw [hr.1, hn]
  rw [← hn] at h1 hl
  rw [hmn] at g1 hm
  rw [← hn, hmn]
  have HL := Lib.hid hl
  have HM := Lib.hid hm
  have HN := Lib.hid hn
  have HMN := Lib.hid hmn
  have HR := Lib.hid hr
  simp only [maxLen] at h2 g2
  clear hl hn hm hr hmn
  go_enter Tryz.func253, Tryz.ntmps253
  go_wp2
  go_loopg [5] n (fun x s5 wr => ∃ k : Nat, k + x = n ∧ s5 = .int .i64 k ∧ ∃ x, wr = w.drewN x)
  case atStart => exact ⟨0, by omega, rfl, 0, rfl⟩
  case round =>
    obtain ⟨k, hk, rfl, nd, rfl⟩ := hrel
    by_cases t : k < n
    · obtain ⟨x, hx⟩ : ∃ x, l[k]? = some x := by
        have := HN.out
        exact ⟨_, List.getElem?_eq_getElem (by omega)⟩
      obtain ⟨y, hy⟩ : ∃ y, m[k]? = some y := by
        have := HMN.out
        exact ⟨_, List.getElem?_eq_getElem (by omega)⟩
      have hu : Upd [] w (w.drewN nd) := (Upd.refl _ _).drewN _
      obtain ⟨hss, L, hL1, hL2⟩ := HR.out.2 k x y hx hy
      have HS : Hid (∀ z, Calls Tryz.prog 90 #[x.sl.val, y.sl.val] ((w.drewN nd).drewN z) fun e w' => e = .returned (.bool true) ∧ ∃ m, w' = (w.drewN nd).drewN m) := fun z => by
        have A := (hL1.upd (hu.drewN z)).rd
        have B := (hL2.upd (hu.drewN z)).rd
        exact Calls.quiet_of (rsameQ18 L _ _ _ A B)
      obtain ⟨q, rfl, z0, zj⟩ := (HL.out.upd hu).at bkCSays_len hx (by decide)
      have c0 := z0 _ rfl
      have c1 := zj 1 _ (by omega) rfl
      clear z0 zj
      obtain ⟨q', rfl, z0, zj⟩ := (HM.out.upd hu).at bkCSays_len hy (by decide)
      have d0 := z0 _ rfl
      have d1 := zj 1 _ (by omega) rfl
      clear z0 zj
      rw [← hss] at d0
      clear hu hx hy hL1 hL2
      obtain ⟨wr, hwr⟩ : ∃ x, x = w.drewN nd := ⟨_, rfl⟩
      rw [← hwr] at c0 c1 d0 d1 HS ⊢
      have HWR := Lib.hid hwr
      clear hwr
      go_wp2
      go_quiet ((go_at_call 90; exact HS.out _))
      go_wp2
      go_roundg (n - (k + 1))
      case rel => exact ⟨k + 1, by omega, by go_num, _, by rw [HWR.out, World.drewN_drewN]⟩
      case measure => omega
    · obtain rfl : k = n := by omega
      go_wp2
      go_ret
      exact ⟨rfl, nd, rfl⟩
end Go.Proofs.YtglafpdealjlnaaGreat
namespace Go.Proofs.YtglafpdealjlnaaGreat
open Go.RowKit
set_option linter.unusedSimpArgs false
set_option linter.unusedVariables false
set_option maxRecDepth 100000
theorem bkCSays_one (l : List SayR) : ∀ u ∈ l.flatMap bkCSays, u.oneCell' = true := by
  intro u hu
  obtain ⟨x, -, hu⟩ := List.mem_flatMap.1 hu
  simp [bkCSays] at hu
  rcases hu with rfl | rfl <;> first | rfl | (simp [Sl.val, Value.oneCell'])
theorem Own.set1 {w : World} {e : TypeId} {size n j g off cap : Nat} {xs : List Value} {own : List Nat} (x : Value)
    (h : Own w e size (.slice (some ⟨g, off, none⟩) n cap) n xs own) (hj : j < n * size) :
    Own (w.setCell ⟨g, off + j, none⟩ x) e size (.slice (some ⟨g, off, none⟩) n cap) n (xs.set j x) own ∧ Upd own w (w.setCell ⟨g, off + j, none⟩ x) := by
  rcases h.2 with ⟨hv, _⟩ | ⟨g', off', cap', cur, hv, ho, hg, hnc, hcm, hs, ht⟩
  · cases hv
  · injection hv with h1 h2 h3
    injection h1 with h1
    injection h1 with h4 h5
    subst h4 h5 h3 ho
    refine ⟨⟨by rw [List.length_set]; exact h.1, .inr ⟨g, off, cap, _, rfl, rfl, hg.set_ (off + j) x, hnc, hcm, by simpa using hs, ?_⟩⟩, (Upd.refl _ _).setCell _ (.inl (by simp))⟩
    rw [Array.toList_setIfInBounds, List.drop_set, if_neg (by omega), List.take_set, ht, Nat.add_sub_cancel_left]
theorem says_set1 {l : List SayR} {k : Nat} {y : SayR} {s : Sl} (h : l[k]? = some y) : (l.flatMap bkCSays).set (k * 2 + 1) s.val = (l.set k ⟨y.ss, s⟩).flatMap bkCSays := by
  induction l generalizing k with
  | nil => cases h
  | cons a l ih =>
    cases k with
    | zero =>
      simp at h
      subst h
      rfl
    | succ k =>
      have := ih (k := k) (by simpa using h)
      rw [List.set_cons_succ]
      show _ = bkCSays a ++ (l.set k ⟨y.ss, s⟩).flatMap bkCSays
      rw [← this, show (k + 1) * 2 + 1 = (k * 2 + 1) + 1 + 1 by omega]
      rfl
theorem relSays_set {w : World} {l m : List SayR} {k : Nat} {x y : SayR} {s : Sl} {L : List Av} (h : RelSays w l m) (hx : l[k]? = some x) (hy : m[k]? = some y) (h1 : SlAt 85 w x.sl L) (h2 : SlAt 85 w s L) : RelSays w l (m.set k ⟨y.ss, s⟩) := by
  refine ⟨by rw [List.length_set]; exact h.1, fun i x' y' hx' hy' => ?_⟩
  rw [List.getElem?_set] at hy'
  split at hy'
  · rename_i hi
    subst hi
    split at hy'
    · injection hy' with hy'
      subst hy'
      rw [hx] at hx'
      injection hx' with hx'
      subst hx'
      exact ⟨(h.2 k x y hx hy).1, L, h1, h2⟩
    · cases hy'
  · exact h.2 i x' y' hx' hy'
theorem info_bsay : (Tryz.prog.info? 191).map (fun i => (i.zero, i.size, i.bytes)) = some (some (.agg #[.int .i64 0, .slice none 0 0]), 2, 32) := by kernel_rfl
theorem relSays_refl {w : World} {l : List SayR} (hd : ∀ x ∈ l, ∃ L, SlAt 85 w x.sl L ∧ L.length ≤ 1000000) : RelSays w l l :=
  ⟨rfl, fun k x y hx hy => by
    rw [hx] at hy
    injection hy with hy
    subst hy
    obtain ⟨L, h, -⟩ := hd x (List.mem_of_getElem? hx)
    exact ⟨rfl, L, h, h⟩⟩
set_option maxHeartbeats 2000000 in
theorem bkCopySays (l : List SayR) (v : Value) (w : World) (hl : Rd w 2 v l.length (l.flatMap bkCSays)) (hn : l.length ≤ 1000000) (hd : ∀ x ∈ l, ∃ L, SlAt 85 w x.sl L ∧ L.length ≤ 1000000) :
    Calls Tryz.prog 278 #[v] w (GivesN RelSays bkCSays 191 2 l w) := by
  obtain ⟨i0, hi, hz0, hz1, hz2⟩ := info_parts info_bsay
  obtain ⟨n, hnl⟩ : ∃ n, n = l.length := ⟨_, rfl⟩
  have HL := Lib.hid hl
  have HD := Lib.hid hd
  have HN := Lib.hid hnl
  rw [← hnl] at HL hn
  clear hl hd hnl
  go_enter Tryz.func278, Tryz.ntmps278
  go_wp2_with (at_builtin; refine wpList_append_Rd _ rfl (.const (.slice none 0 0)) (.tmp 4) 81 rfl 191 i0 _ 2 32 Tryz.underlying81 hi hz0 hz1 hz2 rfl (by decide) _ 0 [] [] (by simp [Act.eval]) (Own.nil _ _ _) _ n _ (by simp [Act.eval]) HL.out (by simp only [maxLen]; omega) (by omega) ?_; intro ao1 cap1 w5 own1 ho1 hin1 hu5; have HO1 := Lib.hid ho1; have HIN1 := Lib.hid hin1; have HU5 := Lib.hid hu5; clear ho1 hin1 hu5)
  have HF : Hid (∀ k ∈ own1, w.heap.size ≤ k) := fun k hk => by
    rcases HIN1.out k hk with h | h
    · cases h
    · exact h
  have ho1 := HO1.out
  rw [Nat.zero_add, List.nil_append] at ho1
  have HO2 := Lib.hid ho1
  have HR2 := Lib.hid (relSays_lasts [] 0 _ _ _ _ (by simp) (.of_nil HU5.out) (relSays_refl HD.out))
  clear ho1
  go_loopg [3] n (fun x s3 wr => ∃ k : Nat, k + x = n ∧ s3 = .int .i64 k ∧ Hid (Upd [] w wr ∧ ∃ m, RelSays wr l m ∧ Own wr 191 2 (.slice ao1 n cap1) n (m.flatMap bkCSays) own1))
  case atStart => exact ⟨0, by omega, rfl, HU5.out, l, HR2.out, HO2.out⟩
  case round =>
    obtain ⟨k, hk, rfl, HI⟩ := hrel
    by_cases t : k < n
    · obtain ⟨x, hx⟩ : ∃ x, l[k]? = some x := by
        have := HN.out
        exact ⟨_, List.getElem?_eq_getElem (by omega)⟩
      obtain ⟨hu, m, hr, ho⟩ := HI.out
      have hml : m.length = n := by rw [hr.1, HN.out]
      obtain ⟨y, hy⟩ : ∃ y, m[k]? = some y := ⟨_, List.getElem?_eq_getElem (by omega)⟩
      obtain ⟨hss, L, hL1, hL2⟩ := hr.2 k x y hx hy
      obtain ⟨L', hL', hb⟩ := HD.out x (List.mem_of_getElem? hx)
      have hLn : L.length ≤ 1000000 := by
        obtain ⟨_, e1, _⟩ := hL1
        obtain ⟨_, e2, _⟩ := hL'
        omega
      obtain ⟨g, off, hao, hown, hc, hf, hnc, hcm⟩ := Own.target ho t
      subst hao hown
      have hrd := ho.rdB (bkCSays_one m)
      rw [← hml] at hrd
      obtain ⟨q, hq, z0, zj⟩ := hrd.at bkCSays_len hy (by decide)
      have c1 := zj 1 _ (by omega) rfl
      clear z0 zj hrd hc
      injection hq with hq
      have HRD := Lib.hid hL2.rd
      have HL1 := Lib.hid hL1
      have HR := Lib.hid hr
      have HO := Lib.hid ho
      have HU := Lib.hid hu
      have HB := Lib.hid hLn
      have HX := Lib.hid (And.intro hx hy)
      have HG := Lib.hid (HF.out g (by simp))
      subst hq
      have c1 : wr.cell? ⟨g, off + k * 2 + 1, none⟩ = some y.sl.val := by have h := c1; rw [Addr.add_lit] at h; exact h
      clear hL1 hL2 hr ho hu hLn hx hy hss hL' hb hml HI HL HO1 HIN1 HU5 HF HO2 HR2
      go_wp2_with fail
      refine (bkCopyAvps L _ _ HRD.out HB.out).mono ?_
      rintro e w6 ⟨ao6, cap6, own6, rfl, ho6, hf6, hu6⟩
      have d1 := (hu6.cell (cell_lt' c1) (by simp)).trans c1
      have HO6 := Lib.hid (HO.out.updD hu6)
      have hf6' : ∀ i, w6.frozen? ⟨g, i, none⟩ = false := by
        obtain ⟨gb, of', -, hw, -, h, -, -⟩ := Own.target HO6.out t
        injection hw with hw
        subst hw
        exact h
      have HL6 := Lib.hid ho6
      have HU6 := Lib.hid hu6
      clear ho6 hf6 hu6 hf c1
      go_wp2_with fail
      go_roundg (n - (k + 1))
      case rel =>
        obtain ⟨ho7, hu7⟩ := Own.set1 (j := k * 2 + 1) (.slice ao6 L.length cap6) HO6.out (by omega)
        have ht := Own.updT_of HO6.out hu7 (fun _ _ => Nat.zero_le _)
        have hr7 := relSays_lasts [191] 0 _ _ _ _ (by decide) ht (relSays_lasts [] 0 _ _ _ _ (by simp) (.of_nil HU6.out) HR.out)
        have h8 := HL6.out
        rw [← avCells_bk] at h8
        refine ⟨k + 1, by omega, by go_num, (HU.out.trans HU6.out).trans' hu7 (fun z hz => ?_), m.set k ⟨y.ss, ⟨ao6, L.length, cap6⟩⟩, relSays_set hr7 HX.out.1 HX.out.2 ((HL1.out.upd HU6.out).updT ht (by decide)) (SlAt.updT ⟨own6, rfl, h8⟩ ht (by decide)), ?_⟩
        · simp at hz
          subst hz
          exact .inr HG.out
        · rw [← says_set1 HX.out.2]
          exact ho7
      case measure => omega
    · obtain rfl : k = n := by omega
      go_wp2
      go_ret
      obtain ⟨hu, m, hr, ho⟩ := HI.out
      have hml : m.length = k := by rw [hr.1, HN.out]
      refine ⟨ao1, cap1, own1, m, hr.1, by rw [hml]; rfl, by rw [hml]; exact ho, HF.out, hr, hu⟩
end Go.Proofs.YtglafpdealjlnaaGreat
