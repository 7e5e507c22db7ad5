/- The walks of the document's NewCall, kind, id, say, With, connect, end (chapter 22). -/
import Derived.Test.YtglafpdealjlnaaGreatQRCallP
import Derived.Test.YtglafpdealjlnaaGreatQRMsB
import Derived.Test.YtglafpdealjlnaaGreatQRes
namespace Go.Proofs.YtglafpdealjlnaaGreat
open Go.RowKit
set_option linter.unusedSimpArgs false
set_option linter.unusedVariables false
set_option maxRecDepth 100000

theorem kindFor_eq (out : Bool) : kindFor out 1 = (if out = true then 7 else 10) ∧ kindFor out 2 = (if out = true then 8 else 11) ∧ kindFor out 3 = (if out = true then 9 else 12) := by
  cases out <;> decide
set_option maxHeartbeats 400000 in
theorem rckind_any (b : Nat) (k : K) (x : Int) (hx : 0 ≤ x ∧ x ≤ 100) (w : World) (h : RCallAt w b k) :
    Calls Tryz.prog 178 #[.pointer (some ⟨b, 0, none⟩), .int .i64 x] w fun e w' => e = .returned (.int .i64 (if k.out = true then x else x + 3)) ∧ w = w' := by
  obtain ⟨vw, vg, hb⟩ := h.cells_
  have g3 := hb.cell 3
  simp [K.rcells] at g3
  have hlt := hb.lt
  have hw3 : IntKind.i64.wrap (x + 3) = x + 3 := IntWalk.i64_in _ (by omega)
  clear hb h
  cases ho : k.out
  · rw [ho] at g3
    rw [if_neg (by simp)]
    clear ho
    go_enter Tryz.func178, Tryz.ntmps178
    go_wp2_with fail
    go_ret
    exact ⟨rfl, rfl⟩
  · rw [ho] at g3
    rw [if_pos rfl]
    clear ho
    go_enter Tryz.func178, Tryz.ntmps178
    go_wp2_with fail
    go_ret
    exact ⟨rfl, rfl⟩
set_option maxHeartbeats 1000000 in
theorem rcid_any (b : Nat) (k : K) (hi : -9223372036854775808 ≤ k.id ∧ k.id ≤ 9223372036854775807) (w : World) (h : RCallAt w b k) :
    Calls Tryz.prog 179 #[.pointer (some ⟨b, 0, none⟩)] w fun e w' => e = .returned k.own.agg ∧ Upd [] w w' := by
  obtain ⟨vw, vg, hb⟩ := h.cells_
  have g0 := hb.cell 0
  simp [K.rcells] at g0
  have hlt := hb.lt
  clear hb h
  obtain ⟨x, hx⟩ : ∃ x, be 2 k.id = x := ⟨_, rfl⟩
  have hn := fun W => rnum18_any 14 k.id 2 (by omega) hi W
  simp only [Av.agg, numAv, hx] at hn
  have HN := Lib.hid hn
  have HE : Hid (k.own.agg = .agg #[.bool true, .bool false, .int .i64 0, .int .i64 14, .string x]) := by rw [← hx]; rfl
  clear hx hn
  rw [HE.out]
  go_enter Tryz.func179, Tryz.ntmps179
  go_wp2_with fail
  refine (HN.out _).mono ?_
  rintro e w1 ⟨rfl, hu1⟩
  have b0 := (Blk.new w 85 #[.bool false, .bool false, .int .i64 0, .int .i64 0, .string ⟨#[]⟩]).upd hu1 (by simp)
  have HB := Lib.hid b0
  have HU : Hid (Upd [] w w1) := ((Upd.refl _ _).alloc _).trans hu1
  have s0 := b0.cell 0
  have s1 := b0.cell 1
  have s2 := b0.cell 2
  have s3 := b0.cell 3
  have s4 := b0.cell 4
  have u0 := b0.frozen 0
  have u1 := b0.frozen 1
  have u2 := b0.frozen 2
  have u3 := b0.frozen 3
  have u4 := b0.frozen 4
  simp at s0 s1 s2 s3 s4
  clear b0 hu1
  go_wp2_with fail
  have RR := ((((HB.out.set_ 0 (.bool true)).set_ 1 (.bool false)).set_ 2 (.int .i64 0)).set_ 3 (.int .i64 14)).set_ 4 (.string x)
  have q0 := RR.cell 0
  have q1 := RR.cell 1
  have q2 := RR.cell 2
  have q3 := RR.cell 3
  have q4 := RR.cell 4
  simp at q0 q1 q2 q3 q4
  exact bodyPost_ret (v := .agg #[.bool true, .bool false, .int .i64 0, .int .i64 14, .string x]) (by simp [results, Tryz.results179, go_sem, q0, q1, q2, q3, q4]) rfl ⟨rfl, by repeat (with_reducible first | refine Upd.setCell _ ?_ (.inr (Nat.le_refl _)) | exact HU.out)⟩

/-- What is said is put together: stage by stage. -/
def rsayA (w0 : World) (pr : Int) (m : List Av) (vs : List Value) (W : World) : Prop := match vs with
  | [] => Upd [] w0 W
  | [u] => Upd [] w0 W ∧ ∃ own, Own W 85 5 u m.length (avCells m) own
  | [_, a] => Upd [] w0 W ∧ ∃ u own, a = .agg #[.int .i64 pr, u] ∧ (∃ ao cap, u = .slice ao m.length cap) ∧ Own W 85 5 u m.length (avCells m) own
  | [_, _, s] => Upd [] w0 W ∧ ∃ own, RSaysAt W s [(pr, m)] own ∧ ∀ x ∈ own, w0.heap.size ≤ x
  | [_, _, s, x] => (Upd [] w0 W ∧ ∃ own, RSaysAt W s [(pr, m)] own ∧ ∀ x ∈ own, w0.heap.size ≤ x) ∧ x = s
  | _ => False
theorem rsayA_upd {w0 W : World} {pr : Int} {m : List Av} {vs : List Value} (h : rsayA w0 pr m vs W) (hv : vs.length ≤ 1) : Upd [] w0 W := by
  match vs, hv with
  | [], _ => exact h
  | [u], _ => exact h.1
set_option maxHeartbeats 2000000 in
theorem rsay_any (b : Nat) (k : K) (kind : Int) (hk : -9223372036854775808 ≤ kind ∧ kind ≤ 9223372036854775807) (l : List Av) (v : Value) (w : World) (h : RCallAt w b k) (hl : AvsAt w v l) (hs : l.length < 1000000) :
    Calls Tryz.prog 184 #[.pointer (some ⟨b, 0, none⟩), .int .i64 kind, v] w (RSaid w [(k.peer, numAv 0 kind 2 :: l)]) := by
  obtain ⟨vw, vg, hb⟩ := h.cells_
  have HB := Lib.hid hb
  have HS := Lib.hid hs
  have HK := Lib.hid hk
  obtain ⟨ao, cap, rfl, -⟩ := id hl
  obtain ⟨n, hn⟩ : ∃ n, n = l.length := ⟨_, rfl⟩
  rw [← hn] at hl
  rw [← hn]
  have HL := Lib.hid hl
  clear hb hs hl hn hk h
  obtain ⟨pr, hpr⟩ : ∃ x, k.peer = x := ⟨_, rfl⟩
  rw [hpr]
  have HPR := Lib.hid hpr
  clear hpr
  go_enter Tryz.func184, Tryz.ntmps184
  go_wp2_with fail
  refine wp_region_chain [some (.pointer (some ⟨b, 0, none⟩)), some (.pointer (some ⟨b, 0, none⟩)), some (.pointer (some ⟨b, 2, none⟩)), some (.int .i64 pr), some (.int .i64 kind), some (.slice ao n cap), none, none, none, none] [6,7,8,9] (rsayA w pr (numAv 0 kind 2 :: l)) [(0, 1), (0, 1), (0, 1), (0, 1), (0, 0), (0, 0), (0, 0), (1, 1), (2, 2), (3, 3)] (by kernel_rfl) (by kernel_rfl) (by kernel_rfl) (by kernel_rfl) (by kernel_rfl) (by kernel_rfl) (((Upd.refl [] _).drew)) ?_ ?_
  · refine StepsC.cons ?_ (StepsC.cons ?_ (StepsC.cons ?_ (StepsC.cons ?_ (StepsC.cons ?_ (StepsC.cons ?_ (StepsC.cons ?_ (StepsC.cons ?_ (StepsC.cons ?_ (StepsC.cons ?_ StepsC.nil)))))))))
    · refine chain_is _ (.inl rfl) ⟨_, rfl⟩ (by kernel_rfl) rfl ?_
      intro a W kst l0 h0 A0 hF hD
      have e0 : a.tmps[0]?.getD undef = _ := (ev a 0).symm.trans (hF 0 (by kernel_rfl))
      clear hF hD
      go_simp
    · refine chain_is _ (.inl rfl) ⟨_, rfl⟩ (by kernel_rfl) rfl ?_
      intro a W kst l0 h0 A0 hF hD
      have e7 : a.tmps[7]?.getD undef = .pointer (some ⟨b, 0, none⟩) := (ev a 7).symm.trans (hD _ (Array.mem_of_getElem? (i := 0) rfl) rfl)
      clear hF hD
      go_simp
    · refine chain_is _ (.inl rfl) ⟨_, rfl⟩ (by kernel_rfl) rfl ?_
      intro a W kst l0 h0 A0 hF hD
      have e8 : a.tmps[8]?.getD undef = .pointer (some ⟨b, 0, none⟩) := (ev a 8).symm.trans (hD _ (Array.mem_of_getElem? (i := 0) rfl) rfl)
      clear hF hD
      go_simp
    · refine chain_is _ (.inl rfl) ⟨_, rfl⟩ (by kernel_rfl) rfl ?_
      intro a W kst l0 h0 A0 hF hD
      have e9 : a.tmps[9]?.getD undef = .pointer (some ⟨b, 2, none⟩) := (ev a 9).symm.trans (hD _ (Array.mem_of_getElem? (i := 0) rfl) rfl)
      clear hF hD
      have hu := rsayA_upd A0 (by simp only [List.length_map, List.length_take]; omega)
      have g2 := (HB.out.upd hu (by simp)).cell 2
      simp [K.rcells, HPR.out] at g2
      go_simp
    · refine chain_is _ (.inl rfl) ⟨_, rfl⟩ (by kernel_rfl) rfl ?_
      intro a W kst l0 h0 A0 hF hD
      have k0 : kst = 0 := Nat.le_antisymm h0 l0
      subst k0
      clear l0 h0
      have e1 : a.tmps[1]?.getD undef = _ := (ev a 1).symm.trans (hF 1 (by kernel_rfl))
      clear hF hD
      go_simp
    · refine chain_is _ (.inl rfl) ⟨_, rfl⟩ (by kernel_rfl) rfl ?_
      intro a W kst l0 h0 A0 hF hD
      have k0 : kst = 0 := Nat.le_antisymm h0 l0
      subst k0
      clear l0 h0
      have e2 : a.tmps[2]?.getD undef = _ := (ev a 2).symm.trans (hF 2 (by kernel_rfl))
      clear hF hD
      go_simp
    · refine chain_call (.inl rfl) ⟨_, rfl⟩ (by kernel_rfl) ?_
      intro a W kst l0 h0 A0 hF hD
      have k0 : kst = 0 := Nat.le_antisymm h0 l0
      subst k0
      clear l0 h0
      have e11 : a.tmps[11]?.getD undef = .int .i64 kind := (ev a 11).symm.trans (hD _ (Array.mem_of_getElem? (i := 0) rfl) rfl)
      have e12 : a.tmps[12]?.getD undef = .slice ao n cap := (ev a 12).symm.trans (hD _ (Array.mem_of_getElem? (i := 1) rfl) rfl)
      clear hF hD
      have hu : Upd [] _ W := A0
      refine ⟨_, _, by (go_simp; first | done | rfl | exact ⟨rfl, rfl⟩), ?_⟩
      refine (rmake_any kind HK.out l _ _ (HL.out.upd hu) HS.out).mono ?_
      rintro e w3 ⟨u1, own1, rfl, ho1, -, hu2⟩
      exact ⟨_, rfl, trivial, hu.trans hu2, own1, by rw [List.length_cons, Nat.add_comm]; exact ho1⟩
    · refine chain_run (.inl rfl) ⟨_, rfl⟩ (by kernel_rfl) ?_
      intro a W kst l0 h0 A0 hF hD
      have k0 : kst = 1 := Nat.le_antisymm h0 l0
      subst k0
      clear l0 h0
      have e10 : a.tmps[10]?.getD undef = .int .i64 pr := (ev a 10).symm.trans (hD _ (Array.mem_of_getElem? (i := 0) rfl) rfl)
      clear hF hD
      obtain ⟨hu, own1, ho⟩ := A0
      obtain ⟨ao1, cap1, hv, -, -⟩ := ho.shape
      obtain ⟨n1, hn1⟩ : ∃ x, x = (numAv 0 kind 2 :: l).length := ⟨_, rfl⟩
      rw [← hn1] at hv
      have e13 : a.tmps[13]?.getD undef = _ := (ev a 13).symm.trans hv
      rw [hv] at ho
      have HN1 := Lib.hid hn1
      clear hn1
      refine ⟨.agg #[.int .i64 pr, .slice ao1 n1 cap1], W, by go_simp, trivial, hu, _, own1, rfl, ⟨ao1, cap1, by rw [HN1.out]⟩, ho⟩
    · refine chain_run (.inl rfl) ⟨_, rfl⟩ (by kernel_rfl) ?_
      intro a W kst l0 h0 A0 hF hD
      have k0 : kst = 2 := Nat.le_antisymm h0 l0
      subst k0
      clear l0 h0
      clear hF hD
      obtain ⟨hu, u, own1, hg, ⟨ao1, cap1, hv⟩, ho⟩ := A0
      obtain ⟨n1, hn1⟩ : ∃ x, x = (numAv 0 kind 2 :: l).length := ⟨_, rfl⟩
      rw [← hn1] at hv
      have HN1 := Lib.hid hn1
      clear hn1
      subst hv
      have HO1 := Lib.hid ho
      clear ho
      have e14 : a.tmps[14]?.getD undef = _ := (ev a 14).symm.trans hg
      refine ⟨.slice (some ⟨W.heap.size, 0, none⟩) 1 1, W.alloc (.cells #[.int .i64 pr, .slice ao1 n1 cap1] 91), by go_simp, trivial, hu.alloc _, [W.heap.size], RSaysAt.one HO1.out, fun x hx => by simp at hx; have := hu.size; omega⟩
    · refine chain_run (.inl rfl) ⟨_, rfl⟩ (by kernel_rfl) ?_
      intro a W kst l0 h0 A0 hF hD
      have k0 : kst = 3 := Nat.le_antisymm h0 l0
      subst k0
      clear l0 h0
      clear hF hD
      exact ⟨_, W, by (go_simp; first | done | rfl), trivial, A0, (ev a 15).symm⟩
  intro vals W hv hA
  have v0 : vals 0 = .pointer (some ⟨b, 0, none⟩) := hv 0 (by decide)
  have v1 : vals 1 = .pointer (some ⟨b, 0, none⟩) := hv 1 (by decide)
  have v2 : vals 2 = .pointer (some ⟨b, 2, none⟩) := hv 2 (by decide)
  have v3 : vals 3 = .int .i64 pr := hv 3 (by decide)
  have v4 : vals 4 = .int .i64 kind := hv 4 (by decide)
  have v5 : vals 5 = .slice ao n cap := hv 5 (by decide)
  clear hv
  obtain ⟨⟨hu, own1, ho, hf⟩, h9⟩ := hA
  obtain ⟨ao1, cap1, hv, -, -⟩ := ho.shape
  rw [hv] at ho
  have v9 : vals 9 = .slice ao1 1 cap1 := h9.trans hv
  simp only [putAll, Act.put, Nat.zero_add, Nat.reduceAdd, v9, v0, v1, v2, v3, v4, v5, List.setIfInBounds_toArray, List.set_cons_zero, List.set_cons_succ]
  clear v0 v1 v2 v3 v4 v5
  have HO := Lib.hid ho
  have HF := Lib.hid hf
  clear ho hf h9 hv v9
  go_wp2_with fail
  go_ret
  exact ⟨⟨_, own1, rfl, HO.out, HF.out, hu⟩⟩
set_option maxHeartbeats 1000000 in
theorem rnewCall_any (id serial : Int) (out : Bool) (w : World) :
    Calls Tryz.prog 36 #[.int .i64 id, .int .i64 serial, .bool out] w fun e w' =>
      if 1 ≤ id ∧ id ≤ 65535 ∧ 0 ≤ serial ∧ serial < 4294967296 then e = .returned (.tuple #[.pointer (some ⟨w.heap.size, 0, none⟩), .int .i64 0]) ∧ RCallAt w' w.heap.size (K.new id serial out) ∧ Upd [] w w'
      else e = .returned (.tuple #[.pointer none, .int .i64 1]) ∧ w = w' := by
  by_cases t : 1 ≤ id ∧ id ≤ 65535 ∧ 0 ≤ serial ∧ serial < 4294967296
  · simp only [if_pos t]
    obtain ⟨t1, t2, t3, t4⟩ := t
    have k1 : ¬ id < 1 := by omega
    have k2 : ¬ 65535 < id := by omega
    have k3 : ¬ serial < 0 := by omega
    have k4 : ¬ 4294967296 ≤ serial := by omega
    go_enter Tryz.func36, Tryz.ntmps36
    go_wp2_with fail
    go_ret2
    exact ⟨rfl, ⟨.slice none 0 0, .slice none 0 0, [], [], Blk.new _ _ _, Own.nil _ _ _, Own.nil _ _ _⟩, (Upd.refl _ _).alloc _⟩
  · simp only [if_neg t]
    have key : id < 1 ∨ (¬ id < 1 ∧ 65535 < id) ∨ (¬ id < 1 ∧ ¬ 65535 < id ∧ serial < 0) ∨ (¬ id < 1 ∧ ¬ 65535 < id ∧ ¬ serial < 0 ∧ 4294967296 ≤ serial) := by omega
    clear t
    rcases key with k1 | ⟨k1, k2⟩ | ⟨k1, k2, k3⟩ | ⟨k1, k2, k3, k4⟩
    all_goals
      go_enter Tryz.func36, Tryz.ntmps36
      go_wp2_with fail
      go_ret2
      exact ⟨rfl, rfl⟩
end Go.Proofs.YtglafpdealjlnaaGreat
