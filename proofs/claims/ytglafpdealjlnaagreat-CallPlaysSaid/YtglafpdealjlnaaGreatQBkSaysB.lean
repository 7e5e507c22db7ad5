/- WRITTEN by wip/gen/bkkind.py. The book's Says: a list put into it; still, put, grow, marked. -/
import Derived.Test.YtglafpdealjlnaaGreatQBkSaysA
import Derived.Test.YtglafpdealjlnaaGreatQRely
import Derived.Test.YtglafpdealjlnaaGreatQRes
namespace Go.Proofs.YtglafpdealjlnaaGreat
open Go.RowKit
set_option linter.unusedSimpArgs false
set_option linter.unusedVariables false
set_option maxRecDepth 100000

set_option maxHeartbeats 1000000 in
theorem bkStillSays {X : List Nat} {g : Nat} {cs : Array Value} {R : List (Bit SayR)} (w0 w : World) (hB : Blk w g 49 cs) (h : KindAtN RelSays bkCSays 191 81 2 12 X w0 w cs R) :
    Calls Tryz.prog 114 #[.pointer (some ⟨g, 0, none⟩)] w fun e w' => e = .returned (.bool true) ∧ Upd [] w w' := by
  obtain ⟨ao, cap, oo, aw, cw, ow, C, a1, a2, a3, a4, a5, a6, a7, a8, a9, a10, a11, x1, x2, x3⟩ := h
  obtain ⟨n, hn⟩ : ∃ n, n = R.length := ⟨_, rfl⟩
  rw [← hn] at a1 a2 a3 a4 a10
  have HR : ∀ b ∈ R, Held bkCSays 191 2 w b := fun b hb => a9.heldA (List.mem_map_of_mem (f := fun b => (b, b)) hb)
  have RO := Lib.hid (a3.rdB (fun u hu => by obtain ⟨b, hb, rfl⟩ := List.mem_map.1 hu; exact (HR b hb).one))
  have RW := Lib.hid (a4.rdB (fun u hu => by obtain ⟨b, hb, rfl⟩ := List.mem_map.1 hu; exact (a8 b hb).one))
  have hcap : n ≤ cap ∧ cap ≤ maxLen ∧ n ≤ cw ∧ cw ≤ maxLen := by
    obtain ⟨x, c', e1, k1, k2, -⟩ := RO.out
    obtain ⟨y, d', e2, k3, k4, -⟩ := RW.out
    injection e1 with _ _ e1
    injection e2 with _ _ e2
    subst e1 e2
    exact ⟨k1, k2, k3, k4⟩
  obtain ⟨q1, q2, q3, q4⟩ := hcap
  simp only [maxLen] at q2 q4
  have HB := Lib.hid hB
  have HA : Hid (cs[24]? = some (.slice ao n cap) ∧ cs[25]? = some (.slice aw n cw)) := ⟨a1, a2⟩
  have HALL : Hid (∀ k, k < n → ∃ b u : Bit SayR, R[k]? = some b ∧ C[k]? = some u ∧ RelSays w b.l u.l ∧ Held bkCSays 191 2 w b ∧ Held bkCSays 191 2 w u) := fun k hk => by
    have hlen : C.length = n := by rw [a7.1, hn]
    obtain ⟨b, hb⟩ : ∃ x, R[k]? = some x := ⟨_, List.getElem?_eq_getElem (by omega)⟩
    obtain ⟨u, hu⟩ : ∃ x, C[k]? = some x := ⟨_, List.getElem?_eq_getElem (by omega)⟩
    have hl := a7.2 k b u hb hu
    exact ⟨b, u, hb, hu, hl, HR b (List.mem_of_getElem? hb), a8 u (List.mem_of_getElem? hu)⟩
  clear a1 a2 a3 a4 a5 a6 a7 a8 a9 a11 x1 x2 x3 HR hB hn
  go_enter Tryz.func114, Tryz.ntmps114
  go_wp2_with fail
  go_loopg [3] n (fun m s3 wr => ∃ k : Nat, k + m = n ∧ s3 = .int .i64 k ∧ Upd [] w wr)
  case atStart => exact ⟨0, by omega, rfl, Upd.refl _ _⟩
  case round =>
    obtain ⟨k, hk, rfl, hu⟩ := hrel
    have HU := Lib.hid hu
    have c0 := (HB.out.upd hu (by simp)).cell 24
    have c1 := (HB.out.upd hu (by simp)).cell 25
    rw [HA.out.1] at c0
    rw [HA.out.2] at c1
    by_cases t : k < n
    · obtain ⟨b, u, hb, hu', hlu, Hb, Hu⟩ := HALL.out k t
      obtain ⟨q, rfl, d0⟩ := (RO.out.upd hu).one (k := k) (x := b.v) (by simp [hb])
      obtain ⟨q', rfl, d1⟩ := (RW.out.upd hu).one (k := k) (x := u.v) (by simp [hu'])
      have HS : Hid (∀ x, Calls Tryz.prog 253 #[b.v, u.v] (wr.drewN x) fun e w' => e = .returned (.bool true) ∧ ∃ m, w' = wr.drewN m) := fun x =>
        Calls.quiet_of (bkSameSays b.l u.l b.v u.v _ ((Own.rdB Hb (bkCSays_one _)).upd (hu.drewN x)) ((Own.rdB Hu (bkCSays_one _)).upd (hu.drewN x)) (relSays_lasts [] 0 _ _ _ _ (by simp) (.of_nil (hu.drewN x)) hlu))
      obtain ⟨ba, bc, e1⟩ := Hb.slice
      obtain ⟨ua, uc, e2⟩ := Hu.slice
      rw [e1, e2] at HS
      rw [e1] at d0
      rw [e2] at d1
      generalize b.l.length = nb at *
      generalize u.l.length = nu at *
      clear hu Hb Hu hb hu' hlu e1 e2
      go_wp2_with fail
      go_quiet ((go_at_call 253; exact HS.out _))
      go_wp2_with fail
      go_roundg (n - (k + 1))
      case rel => exact ⟨k + 1, by omega, by go_num, HU.out.drewN _⟩
      case measure => omega
    · obtain rfl : k = n := by omega
      clear hu
      go_wp2_with fail
      go_ret
      exact ⟨rfl, HU.out⟩

/-- The marks are made, then compared. -/
def mrkSaysA (w : World) (l : List SayR) (vs : List Value) (W : World) : Prop := match vs with
  | [] => Upd [] w W
  | [u] => Upd [] w W ∧ ∃ ao cap own, u = .slice ao l.length cap ∧ Own W 191 2 u l.length (l.flatMap bkCSays) own
  | [_, x] => Upd [] w W ∧ x = .bool true
  | _ => False
theorem mrkSaysA_upd {w W : World} {l : List SayR} {vs : List Value} (h : mrkSaysA w l vs W) : Upd [] w W := by
  match vs with
  | [] => exact h
  | [_] => exact h.1
  | [_, _] => exact h.1
set_option maxHeartbeats 1000000 in
theorem bkMarkedSays (v : Value) (w : World) (h : Marked bkCSays 191 81 2 bkMSays w v) :
    Calls Tryz.prog 168 #[v] w fun e w' => e = .returned (.bool true) ∧ Upd [] w w' := by
  obtain ⟨ao, cap, oo, R, rfl, a2, a3, a4, a5, a6⟩ := h
  obtain ⟨n, hn⟩ : ∃ n, n = R.length := ⟨_, rfl⟩
  rw [← hn] at a2 a5
  rw [← hn]
  have RO := Lib.hid (a2.rdB (fun u hu => by obtain ⟨b, hb, rfl⟩ := List.mem_map.1 hu; exact (a4 b hb).one))
  have hcap : n ≤ cap ∧ cap ≤ maxLen := by
    obtain ⟨x, c', e1, k1, k2, -⟩ := RO.out
    injection e1 with _ _ e1
    subst e1
    exact ⟨k1, k2⟩
  obtain ⟨q1, q2⟩ := hcap
  simp only [maxLen] at q2
  have HALL : Hid (∀ k, k < n → ∃ b : Bit SayR, R[k]? = some b ∧ b.l = marks bkMSays k 0 b.l.length ∧ Held bkCSays 191 2 w b ∧ b.l.length ≤ 200000) := fun k hk => by
    obtain ⟨b, hb⟩ : ∃ x, R[k]? = some x := ⟨_, List.getElem?_eq_getElem (by omega)⟩
    exact ⟨b, hb, a3 k b hb, a4 b (List.mem_of_getElem? hb), a6 b (List.mem_of_getElem? hb)⟩
  clear a2 a3 a4 a6 hn
  go_enter Tryz.func168, Tryz.ntmps168
  go_wp2_with fail
  go_loopg [3] n (fun m s3 wr => ∃ k : Nat, k + m = n ∧ s3 = .int .i64 k ∧ Upd [] w wr)
  case atStart => exact ⟨0, by omega, rfl, Upd.refl _ _⟩
  case round =>
    obtain ⟨k, hk, rfl, hu⟩ := hrel
    have HU := Lib.hid hu
    by_cases t : k < n
    · obtain ⟨b, hb, hbl, Hb, hlen⟩ := HALL.out k t
      obtain ⟨q, rfl, d0⟩ := (RO.out.upd hu).one (k := k) (x := b.v) (by simp [hb])
      have HBD := Lib.hid (Hb.upd hu (by simp))
      obtain ⟨ba, bc, e1⟩ := Hb.slice
      have HE := Lib.hid e1
      have HBL := Lib.hid hbl
      rw [e1] at d0
      have HD := Lib.hid d0
      obtain ⟨nb, hnb⟩ : ∃ x, x = b.l.length := ⟨_, rfl⟩
      rw [← hnb] at d0 hlen
      have HNB := Lib.hid hnb
      clear hu Hb hb hbl e1 hnb
      go_wp2_with fail
      refine wp_region_chain [some (.slice (some q) n cap), some (.int .i64 k), some (.pointer (some (q.add k))), some (.slice ba nb bc), some (.int .i64 k), some (.slice (some q) n cap), some (.int .i64 k), some (.pointer (some (q.add k))), some (.slice ba nb bc), some (.int .i64 nb), none, some (.bool true), some (.bool false)] [10,11] (mrkSaysA wr (marks bkMSays k 0 nb)) [(0, 1), (0, 1), (0, 1), (0, 1), (0, 0), (0, 0), (0, 0), (0, 0), (0, 0), (0, 0), (0, 0), (1, 1), (2, 2)] (by kernel_rfl) (by kernel_rfl) (by kernel_rfl) (by kernel_rfl) (by kernel_rfl) (by kernel_rfl) (((Upd.refl [] _).drew)) ?_ ?_
      · refine StepsC.cons ?_ (StepsC.cons ?_ (StepsC.cons ?_ (StepsC.cons ?_ (StepsC.cons ?_ (StepsC.cons ?_ (StepsC.cons ?_ (StepsC.cons ?_ (StepsC.cons ?_ (StepsC.cons ?_ (StepsC.cons ?_ (StepsC.cons ?_ (StepsC.cons ?_ StepsC.nil))))))))))))
        · refine chain_is _ (.inl rfl) ⟨_, rfl⟩ (by kernel_rfl) rfl ?_
          intro a W kst l0 h0 A0 hF hD
          have e0 : a.tmps[0]?.getD undef = _ := (ev a 0).symm.trans (hF 0 (by kernel_rfl))
          clear hF hD
          have hu := mrkSaysA_upd A0
          have d1 := (hu.cell (cell_lt' d0) (by simp)).trans d0
          go_simp
        · refine chain_is _ (.inl rfl) ⟨_, rfl⟩ (by kernel_rfl) rfl ?_
          intro a W kst l0 h0 A0 hF hD
          have e3 : a.tmps[3]?.getD undef = _ := (ev a 3).symm.trans (hF 3 (by kernel_rfl))
          clear hF hD
          have hu := mrkSaysA_upd A0
          have d1 := (hu.cell (cell_lt' d0) (by simp)).trans d0
          go_simp
        · refine chain_is _ (.inl rfl) ⟨_, rfl⟩ (by kernel_rfl) rfl ?_
          intro a W kst l0 h0 A0 hF hD
          have e10 : a.tmps[10]?.getD undef = .slice (some q) n cap := (ev a 10).symm.trans (hD _ (Array.mem_of_getElem? (i := 0) rfl) rfl)
          have e11 : a.tmps[11]?.getD undef = .int .i64 k := (ev a 11).symm.trans (hD _ (Array.mem_of_getElem? (i := 1) rfl) rfl)
          clear hF hD
          have hu := mrkSaysA_upd A0
          have d1 := (hu.cell (cell_lt' d0) (by simp)).trans d0
          go_simp
        · refine chain_is _ (.inl rfl) ⟨_, rfl⟩ (by kernel_rfl) rfl ?_
          intro a W kst l0 h0 A0 hF hD
          have e12 : a.tmps[12]?.getD undef = .pointer (some (q.add k)) := (ev a 12).symm.trans (hD _ (Array.mem_of_getElem? (i := 0) rfl) rfl)
          clear hF hD
          have hu := mrkSaysA_upd A0
          have d1 := (hu.cell (cell_lt' d0) (by simp)).trans d0
          go_simp
        · refine chain_is _ (.inl rfl) ⟨_, rfl⟩ (by kernel_rfl) rfl ?_
          intro a W kst l0 h0 A0 hF hD
          have k0 : kst = 0 := Nat.le_antisymm h0 l0
          subst k0
          clear l0 h0
          have e3 : a.tmps[3]?.getD undef = _ := (ev a 3).symm.trans (hF 3 (by kernel_rfl))
          clear hF hD
          have hu := mrkSaysA_upd A0
          have d1 := (hu.cell (cell_lt' d0) (by simp)).trans d0
          go_simp
        · refine chain_is _ (.inl rfl) ⟨_, rfl⟩ (by kernel_rfl) rfl ?_
          intro a W kst l0 h0 A0 hF hD
          have k0 : kst = 0 := Nat.le_antisymm h0 l0
          subst k0
          clear l0 h0
          have e0 : a.tmps[0]?.getD undef = _ := (ev a 0).symm.trans (hF 0 (by kernel_rfl))
          clear hF hD
          have hu := mrkSaysA_upd A0
          have d1 := (hu.cell (cell_lt' d0) (by simp)).trans d0
          go_simp
        · refine chain_is _ (.inl rfl) ⟨_, rfl⟩ (by kernel_rfl) rfl ?_
          intro a W kst l0 h0 A0 hF hD
          have k0 : kst = 0 := Nat.le_antisymm h0 l0
          subst k0
          clear l0 h0
          have e3 : a.tmps[3]?.getD undef = _ := (ev a 3).symm.trans (hF 3 (by kernel_rfl))
          clear hF hD
          have hu := mrkSaysA_upd A0
          have d1 := (hu.cell (cell_lt' d0) (by simp)).trans d0
          go_simp
        · refine chain_is _ (.inl rfl) ⟨_, rfl⟩ (by kernel_rfl) rfl ?_
          intro a W kst l0 h0 A0 hF hD
          have k0 : kst = 0 := Nat.le_antisymm h0 l0
          subst k0
          clear l0 h0
          have e15 : a.tmps[15]?.getD undef = .slice (some q) n cap := (ev a 15).symm.trans (hD _ (Array.mem_of_getElem? (i := 0) rfl) rfl)
          have e16 : a.tmps[16]?.getD undef = .int .i64 k := (ev a 16).symm.trans (hD _ (Array.mem_of_getElem? (i := 1) rfl) rfl)
          clear hF hD
          have hu := mrkSaysA_upd A0
          have d1 := (hu.cell (cell_lt' d0) (by simp)).trans d0
          go_simp
        · refine chain_is _ (.inl rfl) ⟨_, rfl⟩ (by kernel_rfl) rfl ?_
          intro a W kst l0 h0 A0 hF hD
          have k0 : kst = 0 := Nat.le_antisymm h0 l0
          subst k0
          clear l0 h0
          have e17 : a.tmps[17]?.getD undef = .pointer (some (q.add k)) := (ev a 17).symm.trans (hD _ (Array.mem_of_getElem? (i := 0) rfl) rfl)
          clear hF hD
          have hu := mrkSaysA_upd A0
          have d1 := (hu.cell (cell_lt' d0) (by simp)).trans d0
          go_simp
        · refine chain_is _ (.inl rfl) ⟨_, rfl⟩ (by kernel_rfl) rfl ?_
          intro a W kst l0 h0 A0 hF hD
          have k0 : kst = 0 := Nat.le_antisymm h0 l0
          subst k0
          clear l0 h0
          have e18 : a.tmps[18]?.getD undef = .slice ba nb bc := (ev a 18).symm.trans (hD _ (Array.mem_of_getElem? (i := 0) rfl) rfl)
          clear hF hD
          have hu := mrkSaysA_upd A0
          have d1 := (hu.cell (cell_lt' d0) (by simp)).trans d0
          go_simp
        · refine chain_call (.inl rfl) ⟨_, rfl⟩ (by kernel_rfl) ?_
          intro a W kst l0 h0 A0 hF hD
          have k0 : kst = 0 := Nat.le_antisymm h0 l0
          subst k0
          clear l0 h0
          have e14 : a.tmps[14]?.getD undef = .int .i64 k := (ev a 14).symm.trans (hD _ (Array.mem_of_getElem? (i := 0) rfl) rfl)
          have e19 : a.tmps[19]?.getD undef = .int .i64 nb := (ev a 19).symm.trans (hD _ (Array.mem_of_getElem? (i := 1) rfl) rfl)
          clear hF hD
          have hu := mrkSaysA_upd A0
          have d1 := (hu.cell (cell_lt' d0) (by simp)).trans d0
          refine ⟨_, _, by (go_simp; first | done | rfl | exact ⟨rfl, rfl⟩), ?_⟩
          refine (bkMarkSays k 0 nb _ (by omega) (by omega) (by omega)).mono ?_
          rintro e w3 ⟨ao1, cap1, own1, rfl, ho1, -, hu2⟩
          exact ⟨_, rfl, trivial, hu.trans hu2, ao1, cap1, own1, rfl, ho1⟩
        · refine chain_call (.inl rfl) ⟨_, rfl⟩ (by kernel_rfl) ?_
          intro a W kst l0 h0 A0 hF hD
          have k0 : kst = 1 := Nat.le_antisymm h0 l0
          subst k0
          clear l0 h0
          have e13 : a.tmps[13]?.getD undef = .slice ba nb bc := (ev a 13).symm.trans (hD _ (Array.mem_of_getElem? (i := 0) rfl) rfl)
          clear hF hD
          have hu := mrkSaysA_upd A0
          have d1 := (hu.cell (cell_lt' d0) (by simp)).trans d0
          obtain ⟨-, ao1, cap1, own1, hg, ho⟩ := A0
          have e20 : a.tmps[20]?.getD undef = _ := (ev a 20).symm.trans hg
          rw [hg] at ho
          refine ⟨_, _, by (go_simp; first | done | rfl | exact ⟨rfl, rfl⟩), ?_⟩
          have hh := (Own.rdB HBD.out (bkCSays_one _)).upd hu
          rw [HE.out, HBL.out, marks_length, ← HNB.out] at hh
          refine (bkSameSays (marks bkMSays k 0 nb) (marks bkMSays k 0 nb) _ _ _ (by rw [marks_length]; exact hh) (ho.rdB (bkCSays_one _)) (relSays_marks _ _ _ _)).mono ?_
          rintro e w3 ⟨rfl, x, rfl⟩
          exact ⟨_, rfl, rfl, hu.drewN x, rfl⟩
        · refine chain_is _ (.inl rfl) ⟨_, rfl⟩ (by kernel_rfl) rfl ?_
          intro a W kst l0 h0 A0 hF hD
          have k0 : kst = 2 := Nat.le_antisymm h0 l0
          subst k0
          clear l0 h0
          have e21 : a.tmps[21]?.getD undef = .bool true := (ev a 21).symm.trans (hD _ (Array.mem_of_getElem? (i := 0) rfl) rfl)
          clear hF hD
          have hu := mrkSaysA_upd A0
          have d1 := (hu.cell (cell_lt' d0) (by simp)).trans d0
          go_simp
      intro vals W hv hA
      have v0 : vals 0 = .slice (some q) n cap := hv 0 (by decide)
      have v1 : vals 1 = .int .i64 k := hv 1 (by decide)
      have v2 : vals 2 = .pointer (some (q.add k)) := hv 2 (by decide)
      have v3 : vals 3 = .slice ba nb bc := hv 3 (by decide)
      have v4 : vals 4 = .int .i64 k := hv 4 (by decide)
      have v5 : vals 5 = .slice (some q) n cap := hv 5 (by decide)
      have v6 : vals 6 = .int .i64 k := hv 6 (by decide)
      have v7 : vals 7 = .pointer (some (q.add k)) := hv 7 (by decide)
      have v8 : vals 8 = .slice ba nb bc := hv 8 (by decide)
      have v9 : vals 9 = .int .i64 nb := hv 9 (by decide)
      have v11 : vals 11 = .bool true := hv 11 (by decide)
      have v12 : vals 12 = .bool false := hv 12 (by decide)
      clear hv
      obtain ⟨hu, -⟩ := hA
      simp only [putAll, Act.put, Nat.zero_add, Nat.reduceAdd, v0, v1, v2, v3, v4, v5, v6, v7, v8, v9, v11, v12, List.setIfInBounds_toArray, List.set_cons_zero, List.set_cons_succ]
      clear v0 v1 v2 v3 v4 v5 v6 v7 v8 v9 v11 v12
      have HU2 := Lib.hid (HU.out.trans hu)
      clear hu
      go_wp2_with fail
      go_roundg (n - (k + 1))
      case rel => exact ⟨k + 1, by omega, by go_num, HU2.out⟩
      case measure => omega
    · obtain rfl : k = n := by omega
      clear hu
      go_wp2_with fail
      go_ret
      exact ⟨rfl, HU.out⟩

set_option maxHeartbeats 2000000 in
theorem bkAddSays {X : List Nat} {g : Nat} {cs : Array Value} {R : List (Bit SayR)} (w0 w : World) (b : Bit SayR) (hB : Blk w g 49 cs) (hg : w0.heap.size ≤ g) (h : KindAtN RelSays bkCSays 191 81 2 12 X w0 w cs R) (hb : Held bkCSays 191 2 w b) (hl : b.l.length ≤ 100000)
    (hlo : ∀ k ∈ b.own, w0.heap.size ≤ k) (hnew : ∀ d ∈ R, ∀ k ∈ d.own, k ∉ b.own) (hX : ∀ k ∈ X, k < w.heap.size) (hd : ∀ x ∈ b.l, ∃ L, SlAt 85 w x.sl L ∧ L.length ≤ 1000000) (hbX : ∀ k ∈ b.own, k ∉ X) :
    Calls Tryz.prog 190 #[.pointer (some ⟨g, 0, none⟩), b.v] w (AddedN RelSays bkCSays 191 81 2 12 X 49 w0 w g cs R b) := by
  have HKIND := Lib.hid h
  obtain ⟨ao, cap, oo, aw, cw, ow, C, a1, a2, a3, a4, a5, a6, a7, a8, a9, a10, a11, x1, x2, x3⟩ := h
  obtain ⟨ba, bc, e1⟩ := hb.slice
  obtain ⟨n, hn⟩ : ∃ n, n = R.length := ⟨_, rfl⟩
  obtain ⟨nb, hnb⟩ : ∃ n, n = b.l.length := ⟨_, rfl⟩
  rw [← hn] at a1 a2 a3 a4 a10
  rw [← hnb] at e1
  have c0 := hB.cell 24
  rw [a1] at c0
  by_cases t : n < 250
  rotate_left
  · have HB := Lib.hid hB
    rw [e1]
    have HN : Hid (¬ R.length < 250) := by show ¬ _; omega
    clear a1 a2 a3 a4 a5 a6 a7 a8 a9 a11 x1 x2 x3 hB e1 hb hn hnb
    go_enter Tryz.func190, Tryz.ntmps190
    go_wp2_with fail
    go_end0
    exact ⟨rfl, cs, HB.out, by rw [if_neg HN.out]; exact HKIND.out, fun _ _ _ => rfl, UpdT.refl _ _ _⟩
  obtain ⟨io, hio, zo0, zo1, zo2⟩ := info_parts bkOSays
  have g1 : g ∉ oo := a3.ne_blk hB (by decide)
  have g2 : g ∉ ow := a4.ne_blk hB (by decide)
  have hbo : ∀ k ∈ b.own, k ∉ oo := hb.ne_own a3 (by decide)
  have HBLK := Lib.hid hB
  have HO := Lib.hid a3
  have HW := Lib.hid a4
  have HH := Lib.hid hb
  have HA : Hid (cs[24]? = some (.slice ao n cap) ∧ cs[25]? = some (.slice aw n cw)) := ⟨a1, a2⟩
  have HE := Lib.hid e1
  have HN := Lib.hid hn
  have HNB := Lib.hid hnb
  have HC := Lib.hid (And.intro a7 (And.intro a8 (And.intro a9 a11)))
  have HD := Lib.hid (And.intro a5 (And.intro a6 (And.intro g1 (And.intro g2 hbo))))
  have f0 := hB.frozen 24
  rw [e1]
  have hn1 : 24 < cs.size := by
    have := (Array.getElem?_eq_some_iff.1 a1).1
    exact this
  have HSZ := Lib.hid hn1
  have HXX := Lib.hid (And.intro x1 (And.intro x2 x3))
  clear a1 a2 a3 a4 a5 a6 a7 a8 a9 a11 x1 x2 x3 hB e1 hb hn hnb g1 g2 hbo hn1
  go_enter Tryz.func190, Tryz.ntmps190
  go_wp2_with (at_builtin; refine wpList_append_Own _ rfl (.tmp 14) (.tmp 16) 42 rfl 81 io _ 1 24 Tryz.underlying42 hio zo0 zo1 zo2 rfl (by decide) (.slice ao n cap) n _ oo (by simp [Act.eval]) (Own.alloc _ HO.out) ⟨w.heap.size, 0, none⟩ 1 1 [.slice ba nb bc] (by simp [Act.eval]) rfl (World.news_of_block (Blk.new _ _ _)) (by simp [Value.oneCell']) (by decide) (by simp only [maxLen]; omega) (by omega) ?_; intro g1 off1 cap1 w1 own1 ho1 hin1 hu1; have HU1 : Hid (Upd oo w w1) := (((Upd.refl oo w).alloc _).trans hu1); have HO1 := Lib.hid ho1; have HIN1 := Lib.hid hin1; have hB1 := HBLK.out.upd HU1.out HD.out.2.2.1; have HB1 := Lib.hid hB1; have c1 := hB1.cell 24; rw [HA.out.1] at c1; have f1 := hB1.frozen 24; clear ho1 hin1 hu1 hB1 c0 f0)
  -- the second region: in a world of its own
  have B2 : Blk (w1.setCell ⟨g, 24, none⟩ (.slice (some ⟨g1, off1, none⟩) (n + 1) cap1)) g 49 (cs.setIfInBounds 24 (.slice (some ⟨g1, off1, none⟩) (n + 1) cap1)) := HB1.out.set_ _ _
  have g1n : g ∉ own1 := HO1.out.ne_blk HB1.out (by decide)
  have O2 : Own (w1.setCell ⟨g, 24, none⟩ (.slice (some ⟨g1, off1, none⟩) (n + 1) cap1)) 81 1 (.slice (some ⟨g1, off1, none⟩) (n + 1) cap1) (n + 1) _ own1 := HO1.out.setCell _ g1n
  have W2 : Own (w1.setCell ⟨g, 24, none⟩ (.slice (some ⟨g1, off1, none⟩) (n + 1) cap1)) 81 1 (.slice aw n cw) n (C.map Bit.v) ow := (HW.out.upd HU1.out (fun k hk hk2 => HD.out.1 k hk2 hk)).setCell _ HD.out.2.2.2.1
  have H2 : Held bkCSays 191 2 (w1.setCell ⟨g, 24, none⟩ (.slice (some ⟨g1, off1, none⟩) (n + 1) cap1)) b := (HH.out.upd HU1.out HD.out.2.2.2.2).upd ((Upd.refl [g] _).setCell _ (.inl (by simp))) (fun k hk => by
    have := Own.ne_blk (HH.out.upd HU1.out HD.out.2.2.2.2) HB1.out (by decide)
    simp; rintro rfl; exact this hk)
  have U2 : UpdT [49, 81] w0.heap.size w (w1.setCell ⟨g, 24, none⟩ (.slice (some ⟨g1, off1, none⟩) (n + 1) cap1)) := by
    have u1 : UpdT [49, 81] w0.heap.size w w1 := (HO.out.updT_of HU1.out (fun k hk => HD.out.2.1 k (by simp [hk]))).mono (by simp)
    refine u1.thenUpd (F := [g]) ((Upd.refl [g] _).setCell _ (.inl (by simp))) ?_
    intro x hx
    simp at hx
    subst hx
    exact .inr ⟨hg, _, _, HB1.out, by simp⟩
  have N1 : ∀ k ∈ own1, w0.heap.size ≤ k ∧ k ∉ ow ∧ (k ∈ oo ∨ w.heap.size ≤ k) := by
    intro k hk
    have hwl : w0.heap.size ≤ w.heap.size := HC.out.2.2.1.upd.size
    rcases HIN1.out k hk with h | h
    · exact ⟨HD.out.2.1 k (by simp [h]), HD.out.1 k h, .inl h⟩
    · have h3 : w.heap.size ≤ k := Nat.le_trans (by simp) h
      exact ⟨by omega, fun h2 => by have := HW.out.lt k h2; omega, .inr h3⟩
  have ZS : w.heap.size ≤ (w1.setCell ⟨g, 24, none⟩ (.slice (some ⟨g1, off1, none⟩) (n + 1) cap1)).heap.size := U2.size
  have HSD0 : ∀ W, Upd [] (w1.setCell ⟨g, 24, none⟩ (.slice (some ⟨g1, off1, none⟩) (n + 1) cap1)) W → ∀ x ∈ b.l, ∃ L, SlAt 85 W x.sl L ∧ L.length ≤ 1000000 := fun W hW x hx => by
    obtain ⟨L, h1, h2⟩ := hd x hx
    exact ⟨L, (h1.updT U2 (by decide)).upd hW, h2⟩
  have HSD := Lib.hid HSD0
  clear HSD0
  generalize w1.setCell ⟨g, 24, none⟩ (.slice (some ⟨g1, off1, none⟩) (n + 1) cap1) = w2 at *
  obtain ⟨v1, hv1⟩ : ∃ v, v = Value.slice (some ⟨g1, off1, none⟩) (n + 1) cap1 := ⟨_, rfl⟩
  rw [← hv1] at B2 O2
  have HV1 := Lib.hid hv1
  have HB2 := Lib.hid B2
  have HO2 := Lib.hid O2
  have HW2 := Lib.hid W2
  have HH2 := Lib.hid H2
  have HU2 := Lib.hid U2
  have HN1 := Lib.hid N1
  have HZS := Lib.hid ZS
  clear B2 O2 W2 H2 U2 N1 ZS hv1 HB1 HU1 HO1 HIN1 c1 f1 g1n
  refine wp_region_chain [some (.pointer (some ⟨g, 0, none⟩)), some (.pointer (some ⟨g, 0, none⟩)), some (.pointer (some ⟨g, 0, none⟩)), some (.pointer (some ⟨g, 25, none⟩)), some (.slice aw n cw), some (.slice ba nb bc), none, none, none, some (.pointer (some ⟨g, 0, none⟩)), some (.pointer (some ⟨g, 25, none⟩)), none] [6,7,8,11] (addN RelSays bkCSays 191 2 12 81 49 w2 g (cs.setIfInBounds 24 v1) ow n (C.map Bit.v) b.l) [(0, 3), (0, 2), (0, 2), (0, 2), (0, 2), (0, 0), (0, 0), (1, 1), (2, 2), (3, 3), (3, 3), (3, 3)] (by kernel_rfl) (by kernel_rfl) (by kernel_rfl) (by kernel_rfl) (by kernel_rfl) (by kernel_rfl) (((Upd.refl [] _).drew)) ?_ ?_
  · refine StepsC.cons ?_ (StepsC.cons ?_ (StepsC.cons ?_ (StepsC.cons ?_ (StepsC.cons ?_ (StepsC.cons ?_ (StepsC.cons ?_ (StepsC.cons ?_ (StepsC.cons ?_ (StepsC.cons ?_ (StepsC.cons ?_ (StepsC.cons ?_ StepsC.nil)))))))))))
    · refine chain_is _ (.inl rfl) ⟨_, rfl⟩ (by kernel_rfl) rfl ?_
      intro a W kst l0 h0 A0 hF hD
      have e0 : a.tmps[0]?.getD undef = _ := (ev a 0).symm.trans (hF 0 (by kernel_rfl))
      clear hF hD
      go_simp
    · refine chain_is _ (.inl rfl) ⟨_, rfl⟩ (by kernel_rfl) rfl ?_
      intro a W kst l0 h0 A0 hF hD
      have e0 : a.tmps[0]?.getD undef = _ := (ev a 0).symm.trans (hF 0 (by kernel_rfl))
      clear hF hD
      go_simp
    · refine chain_is _ (.inl rfl) ⟨_, rfl⟩ (by kernel_rfl) rfl ?_
      intro a W kst l0 h0 A0 hF hD
      have e21 : a.tmps[21]?.getD undef = .pointer (some ⟨g, 0, none⟩) := (ev a 21).symm.trans (hD _ (Array.mem_of_getElem? (i := 0) rfl) rfl)
      clear hF hD
      go_simp
    · refine chain_is _ (.inl rfl) ⟨_, rfl⟩ (by kernel_rfl) rfl ?_
      intro a W kst l0 h0 A0 hF hD
      have e22 : a.tmps[22]?.getD undef = .pointer (some ⟨g, 0, none⟩) := (ev a 22).symm.trans (hD _ (Array.mem_of_getElem? (i := 0) rfl) rfl)
      clear hF hD
      go_simp
    · refine chain_is _ (.inl rfl) ⟨_, rfl⟩ (by kernel_rfl) rfl ?_
      intro a W kst l0 h0 A0 hF hD
      have e23 : a.tmps[23]?.getD undef = .pointer (some ⟨g, 25, none⟩) := (ev a 23).symm.trans (hD _ (Array.mem_of_getElem? (i := 0) rfl) rfl)
      clear hF hD
      have hu := addN_upd (α := SayR) A0 (by simp only [List.length_map, List.length_take]; omega)
      have b2 := (HB2.out.upd hu (by simp)).cell 25
      rw [Array.getElem?_setIfInBounds_ne (by decide), HA.out.2] at b2
      go_simp
    · refine chain_is _ (.inl rfl) ⟨_, rfl⟩ (by kernel_rfl) rfl ?_
      intro a W kst l0 h0 A0 hF hD
      have k0 : kst = 0 := Nat.le_antisymm h0 l0
      subst k0
      clear l0 h0
      have e1 : a.tmps[1]?.getD undef = _ := (ev a 1).symm.trans (hF 1 (by kernel_rfl))
      clear hF hD
      go_simp
    · refine chain_call (.inl rfl) ⟨_, rfl⟩ (by kernel_rfl) ?_
      intro a W kst l0 h0 A0 hF hD
      have k0 : kst = 0 := Nat.le_antisymm h0 l0
      subst k0
      clear l0 h0
      have e25 : a.tmps[25]?.getD undef = .slice ba nb bc := (ev a 25).symm.trans (hD _ (Array.mem_of_getElem? (i := 0) rfl) rfl)
      clear hF hD
      have hu : Upd [] w2 W := A0
      refine ⟨_, _, by (go_simp; first | done | rfl | exact ⟨rfl, rfl⟩), ?_⟩
      have hh := (Own.rdB HH2.out (bkCSays_one _)).upd hu
      rw [HE.out] at hh
      refine (bkCopySays b.l _ _ hh (by have := HNB.out; omega) (HSD.out W hu)).mono ?_
      rintro e w3 ⟨ao1, cap1, own1, m1, hm1, rfl, ho1, hfo, hr1, hu2⟩
      exact ⟨_, rfl, trivial, hu.trans hu2, ao1, cap1, own1, m1, hm1, hr1, rfl, ho1, fun k hk => Nat.le_trans hu.size (hfo k hk)⟩
    · refine chain_run (.inl rfl) ⟨_, rfl⟩ (by kernel_rfl) ?_
      intro a W kst l0 h0 A0 hF hD
      have k0 : kst = 1 := Nat.le_antisymm h0 l0
      subst k0
      clear l0 h0
      clear hF hD
      obtain ⟨hu, ao1, cap1, own1, m1, hm1, hr1, hv, ho, hfo⟩ := A0
      have hml : m1.length = nb := hm1.trans HNB.out.symm
      rw [hml] at hv
      have e26 : a.tmps[26]?.getD undef = _ := (ev a 26).symm.trans hv
      have HO9 := Lib.hid ho
      have HV9 := Lib.hid hv
      have HM9 := Lib.hid hm1
      have HML := Lib.hid hml
      have HR9 := Lib.hid hr1
      clear ho hv hm1 hml hr1
      refine ⟨.slice (some ⟨W.heap.size, 0, none⟩) 1 1, W.alloc (.cells #[.slice ao1 nb cap1] 81), by go_simp, trivial, hu.alloc _, ao1, cap1, own1, m1, HM9.out, relSays_lasts [] 0 _ _ _ _ (by simp) (.of_nil ((Upd.refl _ _).alloc _)) HR9.out, by rw [HML.out]; exact HV9.out, HO9.out.alloc _, hfo, W.heap.size, rfl, ?_⟩
      rw [HML.out]
      exact Blk.new _ _ _
    · refine chain_run (.inl rfl) ⟨_, rfl⟩ (by kernel_rfl) ?_
      intro a W kst l0 h0 A0 hF hD
      have k0 : kst = 2 := Nat.le_antisymm h0 l0
      subst k0
      clear l0 h0
      have e24 : a.tmps[24]?.getD undef = .slice aw n cw := (ev a 24).symm.trans (hD _ (Array.mem_of_getElem? (i := 0) rfl) rfl)
      clear hF hD
      obtain ⟨hu, ao1, cap1, own1, m1, hm1, hr1, hv, ho, hfo, gx, hx, hbx⟩ := A0
      obtain ⟨g8, off8, cap8, w8, own8, hrun, ho8, hin8, hu8⟩ := run_append_Own (P := Tryz.prog) W 42 42 81 io _ 1 24 Tryz.underlying42 hio zo0 zo1 zo2 rfl (by decide) (.slice aw n cw) n (C.map Bit.v) ow (HW2.out.updD hu) ⟨gx, 0, none⟩ 1 1 [.slice ao1 m1.length cap1] rfl (World.news_of_block hbx) (by simp [Value.oneCell']) (by decide) (by simp only [maxLen]; omega) (by omega)
      refine ⟨_, w8, exec_append rfl ((ev a 24).trans e24) hx hrun, trivial, (hu.mono (by simp)).trans hu8, ao1, cap1, own1, m1, hm1, relSays_lasts [81] 0 _ _ _ _ (by decide) (Own.updT_of (HW2.out.updD hu) hu8 (fun _ _ => Nat.zero_le _)) hr1, hv, ho.upd hu8 (ho.ne_own (HW2.out.updD hu) (by decide)), hfo, _, _, own8, rfl, ho8, fun k hk => ?_⟩
      rcases hin8 k hk with h | h
      · exact .inl h
      · exact .inr (Nat.le_trans hu.size h)
    · refine chain_is _ (.inl rfl) ⟨_, rfl⟩ (by kernel_rfl) rfl ?_
      intro a W kst l0 h0 A0 hF hD
      have k0 : kst = 3 := Nat.le_antisymm h0 l0
      subst k0
      clear l0 h0
      have e20 : a.tmps[20]?.getD undef = .pointer (some ⟨g, 0, none⟩) := (ev a 20).symm.trans (hD _ (Array.mem_of_getElem? (i := 0) rfl) rfl)
      clear hF hD
      go_simp
    · refine chain_is _ (.inl rfl) ⟨_, rfl⟩ (by kernel_rfl) rfl ?_
      intro a W kst l0 h0 A0 hF hD
      have k0 : kst = 3 := Nat.le_antisymm h0 l0
      subst k0
      clear l0 h0
      have e29 : a.tmps[29]?.getD undef = .pointer (some ⟨g, 0, none⟩) := (ev a 29).symm.trans (hD _ (Array.mem_of_getElem? (i := 0) rfl) rfl)
      clear hF hD
      go_simp
    · refine chain_set (.inl rfl) rfl (by kernel_rfl) trivial ?_
      intro a W kst l0 h0 A0 hF hD
      have k0 : kst = 3 := Nat.le_antisymm h0 l0
      subst k0
      clear l0 h0
      have e30 : a.tmps[30]?.getD undef = .pointer (some ⟨g, 25, none⟩) := (ev a 30).symm.trans (hD _ (Array.mem_of_getElem? (i := 0) rfl) rfl)
      clear hF hD
      obtain ⟨hu, ao1, cap1, own1, m1, hm1, hr1, hv, ho, hfo, ay, cy, oy, hy, hoy, hin⟩ := A0
      have e28 : a.tmps[28]?.getD undef = _ := (ev a 28).symm.trans hy
      have b2 := HB2.out.upd hu HD.out.2.2.2.1
      have c2 := b2.cell 25
      rw [Array.getElem?_setIfInBounds_ne (by decide), HA.out.2] at c2
      have f2 := b2.frozen 25
      have HOY := Lib.hid (hoy.setCell (p := ⟨g, 25, none⟩) (.slice ay (n + 1) cy) (hoy.ne_blk b2 (by decide)))
      have HO9 := Lib.hid (ho.setCell (p := ⟨g, 25, none⟩) (.slice ay (n + 1) cy) (ho.ne_blk b2 (by decide)))
      have HB9 := Lib.hid (b2.set_ 25 (.slice ay (n + 1) cy))
      have HR9 : Hid (RelSays (W.setCell ⟨g, 25, none⟩ (.slice ay (n + 1) cy)) b.l m1) := relSays_lasts [49] 0 _ _ _ _ (by decide) (UpdT.of_upd (F := [g]) ((Upd.refl [g] _).setCell _ (.inl (by simp))) (fun k hk _ => ⟨Nat.zero_le _, _, _, by (simp at hk; subst hk; exact b2), by simp⟩)) hr1
      have HU9 : Hid (Upd (g :: ow) w2 (W.setCell ⟨g, 25, none⟩ (.slice ay (n + 1) cy))) := (hu.mono (by simp +contextual)).setCell _ (.inl (by simp))
      clear hoy ho b2 hu hv hr1
      refine ⟨_, by (go_simp; first | done | rfl | exact ⟨rfl, rfl⟩), HU9.out, ao1, cap1, own1, m1, hm1, HR9.out, HO9.out, hfo, ay, cy, oy, HOY.out, hin, HB9.out⟩
  intro vals W hv hA
  have v0 : vals 0 = .pointer (some ⟨g, 0, none⟩) := hv 0 (by decide)
  have v1 : vals 1 = .pointer (some ⟨g, 0, none⟩) := hv 1 (by decide)
  have v2 : vals 2 = .pointer (some ⟨g, 0, none⟩) := hv 2 (by decide)
  have v3 : vals 3 = .pointer (some ⟨g, 25, none⟩) := hv 3 (by decide)
  have v4 : vals 4 = .slice aw n cw := hv 4 (by decide)
  have v5 : vals 5 = .slice ba nb bc := hv 5 (by decide)
  have v9 : vals 9 = .pointer (some ⟨g, 0, none⟩) := hv 9 (by decide)
  have v10 : vals 10 = .pointer (some ⟨g, 25, none⟩) := hv 10 (by decide)
  clear hv
  obtain ⟨hu, aoC, capC, ownC, mC, hmC, hrC, ho, hfo, ay, cy, oy, hoy, hin, hbb⟩ := hA
  simp only [putAll, Act.put, Nat.zero_add, Nat.reduceAdd, v0, v1, v2, v3, v4, v5, v9, v10, List.setIfInBounds_toArray, List.set_cons_zero, List.set_cons_succ]
  clear v0 v1 v2 v3 v4 v5 v9 v10
  have HX := Lib.hid (And.intro hu (And.intro ho (And.intro hoy (And.intro hin hbb))))
  have HFO := Lib.hid hfo
  have HRC := Lib.hid hrC
  clear hrC hmC
  clear hu ho hoy hin hbb hfo
  go_wp2_with fail
  go_end0
  obtain ⟨hu, ho, hoy, hin, hbb⟩ := HX.out
  obtain ⟨a7, a8, a9, a11⟩ := HC.out
  have hR := HN.out
  have hrl : R.length < 250 := by omega
  have hgo : g ∉ own1 := HO2.out.ne_blk HB2.out (by decide)
  have hF : ∀ k ∈ own1, k ∉ g :: ow := fun k hk hk2 => by
    rcases List.mem_cons.1 hk2 with rfl | hk2
    · exact hgo hk
    · exact (HN1.out k hk).2.1 hk2
  have hFb : ∀ k ∈ b.own, k ∉ g :: ow := fun k hk hk2 => by
    rcases List.mem_cons.1 hk2 with rfl | hk2
    · exact Own.ne_blk HH2.out HB2.out (by decide) hk
    · exact Own.ne_own HH2.out HW2.out (by decide) k hk hk2
  have U3 : UpdT [49, 81] w0.heap.size w W := by
    refine HU2.out.thenUpd hu ?_
    intro x hx
    rcases List.mem_cons.1 hx with rfl | hx
    · exact .inr ⟨hg, _, _, HB2.out, by simp⟩
    · obtain ⟨cs9, hb9⟩ := HW2.out.typ x hx
      exact .inr ⟨HD.out.2.1 x (by simp [hx]), cs9, _, hb9, by simp⟩
  refine ⟨rfl, _, hbb, ?_, ?_, U3⟩
  · rw [if_pos hrl]
    have hs2 : 25 < cs.size := by
      have := (Array.getElem?_eq_some_iff.1 HA.out.2).1
      exact this
    have k1 : ((cs.setIfInBounds 24 v1).setIfInBounds 25 (.slice ay (n + 1) cy))[24]? = some (.slice (some ⟨g1, off1, none⟩) (R.length + 1) cap1) := by
      rw [Array.getElem?_setIfInBounds_ne (by decide), Array.getElem?_setIfInBounds_self_of_lt HSZ.out, HV1.out, hR]
    have k2 : ((cs.setIfInBounds 24 v1).setIfInBounds 25 (.slice ay (n + 1) cy))[25]? = some (.slice ay (R.length + 1) cy) := by
      rw [Array.getElem?_setIfInBounds_self_of_lt (by simpa using hs2), hR]
    have o1 := HO2.out.upd hu hF
    rw [HV1.out, hR, ← HE.out] at o1
    have o2 := hoy
    rw [hR] at o2
    refine KindAtN.add relSays_lasts (C := C) (u := ⟨.slice aoC mC.length capC, mC, ownC⟩) U3 (by decide) (by decide) hrl a7 a8 a9 a11 (HH2.out.upd hu hFb) hl hlo hnew ho HRC.out k1 k2 o1 o2 ?_ ?_ ?_ HXX.out.2.1 HXX.out.2.2 hbX ?_
    · intro k hk hk2
      rcases hin k hk2 with h | h
      · exact (HN1.out k hk).2.1 h
      · have := HO2.out.lt k hk; omega
    · intro k hk
      rcases List.mem_append.1 hk with hk | hk
      · exact (HN1.out k hk).1
      · rcases hin k hk with h | h
        · exact HD.out.2.1 k (by simp [h])
        · have := HZS.out
          have : w0.heap.size ≤ w.heap.size := a9.upd.size
          omega
    · intro k hk hk2
      have hkl := hX k hk2
      rcases List.mem_append.1 hk with hk | hk
      · rcases (HN1.out k hk).2.2 with h | h
        · exact HXX.out.1 k (by simp [h]) hk2
        · omega
      · rcases hin k hk with h | h
        · exact HXX.out.1 k (by simp [h]) hk2
        · have := HZS.out
          omega
    · intro k hk hk2
      have h1 : w2.heap.size ≤ k := HFO.out k hk
      have := hX k hk2
      have := HZS.out
      omega
  · intro j h1 h2
    rw [Array.getElem?_setIfInBounds_ne (by omega), Array.getElem?_setIfInBounds_ne (by omega)]

end Go.Proofs.YtglafpdealjlnaaGreat
