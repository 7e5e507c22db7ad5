/- The walk of data.Build. -/
import Derived.OwnWalk
import Derived.Test.YtljiichcmljbgaaGreatQDataK
import Derived.Test.YtljiichcmljbgaaGreatQDataS
import Derived.Test.YtljiichcmljbgaaGreatQOptA
namespace Go.Proofs.YtljiichcmljbgaaGreat
open Go.RowKit
set_option linter.unusedSimpArgs false
set_option linter.unusedVariables false
set_option maxRecDepth 100000

theorem info_avp : (Tryz.prog.info? 67).map (fun i => (i.zero, i.size, i.bytes)) = some (some (.agg #[.bool false, .bool false, .int .i64 0, .int .i64 0, .string ⟨#[]⟩]), 5, 40) := by kernel_rfl
/-- A slice of values of its own, made behind the world w0. -/
def OutAt (w0 w : World) (v : Value) (l : List Av) : Prop := ∃ own, Own w 67 5 v l.length (avCells l) own ∧ ∀ k, k ∈ own → w0.heap.size ≤ k
theorem OutAt.keep {w0 w w' : World} {v : Value} {l : List Av} (h : OutAt w0 w v l) (hu : Upd [] w w') : OutAt w0 w' v l := by
  obtain ⟨own, h1, h2⟩ := h
  exact ⟨own, h1.upd hu (by simp), h2⟩
theorem OutAt.nil (w0 w : World) : OutAt w0 w (.slice none 0 0) [] := ⟨[], Own.nil _ _ _, by simp⟩
def Px.ls (p : Px) : List (List Tg) := [p.first, p.tx, p.rx]
theorem px_ls {p : Px} {k : Nat} {x : List Tg} (h : p.ls[k]? = some x) (hk : k < 3) : p.link[k]? = some (textAv (26 + k) (encOpts x)) ∧ x ∈ p.ls := by
  have hm := List.mem_of_getElem? h
  refine ⟨?_, hm⟩
  match k, hk with
  | 0, _ => simp [Px.ls] at h; subst h; rfl
  | 1, _ => simp [Px.ls] at h; subst h; rfl
  | 2, _ => simp [Px.ls] at h; subst h; rfl
theorem linkBad_of {p : Px} {x : List Tg} (h : x ∈ p.ls) (hx : (putOpts x).2 ≠ 0) : p.linkBad = true := by
  simp only [Px.ls, List.mem_cons, List.not_mem_nil, or_false] at h
  unfold Px.linkBad
  rcases h with rfl | rfl | rfl <;> simp [hx]
theorem linkGood_of {p : Px} (h : ∀ x ∈ p.ls, (putOpts x).2 = 0) : p.linkBad = false := by
  unfold Px.linkBad
  simp [h p.first (by simp [Px.ls]), h p.tx (by simp [Px.ls]), h p.rx (by simp [Px.ls])]

/-- The cells of a text's value. -/
def tc (kind : Int) (s : ByteArray) : List Value := [.bool true, .bool false, .int .i64 0, .int .i64 kind, .string s]
theorem avs1 (w : World) (x : Av) : Rd (w.alloc (.cells #[.bool x.must, .bool x.hidden, .int .i64 x.vendor, .int .i64 x.kind, .string x.val] 67)) 5 (.slice (some ⟨w.heap.size, 0, none⟩) 1 1) 1 [.bool x.must, .bool x.hidden, .int .i64 x.vendor, .int .i64 x.kind, .string x.val] :=
  (AvsAt.of_blk (l := [x]) (Blk.new w 67 (avCells [x]).toArray) (by simp [maxLen])).rd
theorem avs2 (w : World) (x y : Av) : Rd (w.alloc (.cells #[.bool x.must, .bool x.hidden, .int .i64 x.vendor, .int .i64 x.kind, .string x.val, .bool y.must, .bool y.hidden, .int .i64 y.vendor, .int .i64 y.kind, .string y.val] 67)) 5 (.slice (some ⟨w.heap.size, 0, none⟩) 2 2) 2 (avCells [x, y]) :=
  (AvsAt.of_blk (l := [x, y]) (Blk.new w 67 (avCells [x, y]).toArray) (by simp [maxLen])).rd
def b14R (w0 : World) (own : List Nat) (v : Value) (n : Nat) (xs : List Value) (nm : ByteArray) (i8 : Int) (vs : List Value) (w : World) : Prop := match vs with
  | [] => Own w 67 5 v n xs own
  | [a] => Own w 67 5 v n xs own ∧ a = (textAv 30 nm).agg
  | [a, c] => Own w 67 5 v n xs own ∧ a = (textAv 30 nm).agg ∧ c = (numAv 32 i8 2).agg
  | [_, _, s] => Own w 67 5 v n xs own ∧ Rd w 5 s 2 (avCells [textAv 30 nm, numAv 32 i8 2])
  | [_, _, _, o] => ∃ ao cap own', o = .slice ao (n + 2) cap ∧ Own w 67 5 (.slice ao (n + 2) cap) (n + 2) (xs ++ avCells [textAv 30 nm, numAv 32 i8 2]) own' ∧ ∀ k, k ∈ own' → k ∈ own ∨ w0.heap.size ≤ k
  | [_, _, _, _, o] => ∃ ao cap own', o = .slice ao (n + 2) cap ∧ Own w 67 5 (.slice ao (n + 2) cap) (n + 2) (xs ++ avCells [textAv 30 nm, numAv 32 i8 2]) own' ∧ ∀ k, k ∈ own' → k ∈ own ∨ w0.heap.size ≤ k
  | _ => False
def b14A (w0 : World) (own : List Nat) (v : Value) (n : Nat) (xs : List Value) (nm : ByteArray) (i8 : Int) (vs : List Value) (w : World) : Prop := Upd own w0 w ∧ b14R w0 own v n xs nm i8 vs w
set_option maxHeartbeats 4000000 in
theorem build_any (p : Px) (f t r : Value) (w : World) (hf : TgsAt w f p.first) (ht : TgsAt w t p.tx) (hr : TgsAt w r p.rx) (hs : ∀ l ∈ p.ls, ∀ t ∈ l, t.s.size ≤ 140737488355328)
    (hz : p.name.size ≤ 140737488355328 ∧ p.value.size ≤ 140737488355328 ∧ p.reply.size ≤ 140737488355328) :
    Calls Tryz.prog 9 #[p.val f t r] w fun e w' => ∃ v, e = .returned v ∧ OutAt w w' v p.build ∧ Upd [] w w' := by
  obtain ⟨i0, hi0, hz0, hz1, hz2⟩ := info_parts info_avp
  obtain ⟨af, cf, rfl, -, -, -⟩ := id hf
  obtain ⟨at_, ct, rfl, -, -, -⟩ := id ht
  obtain ⟨ar, cr, rfl, -, -, -⟩ := id hr
  obtain ⟨nf, hnf⟩ : ∃ n, n = p.first.length := ⟨_, rfl⟩
  obtain ⟨nt, hnt⟩ : ∃ n, n = p.tx.length := ⟨_, rfl⟩
  obtain ⟨nr, hnr⟩ : ∃ n, n = p.rx.length := ⟨_, rfl⟩
  rw [← hnf] at hf ⊢
  rw [← hnt] at ht ⊢
  rw [← hnr] at hr ⊢
  have HTG : Hid (∀ (k : Nat) (x : List Tg), p.ls[k]? = some x → ∃ (ao : Option Addr) (n cap : Nat), (#[Value.slice af nf cf, Value.slice at_ nt ct, Value.slice ar nr cr] : Array Value)[k]? = some (Value.slice ao n cap) ∧ TgsAt w (.slice ao n cap) x) := by
    intro k x hx
    match k with
    | 0 => simp [Px.ls] at hx; subst hx; exact ⟨af, nf, cf, rfl, hf⟩
    | 1 => simp [Px.ls] at hx; subst hx; exact ⟨at_, nt, ct, rfl, ht⟩
    | 2 => simp [Px.ls] at hx; subst hx; exact ⟨ar, nr, cr, rfl, hr⟩
    | k + 3 => simp [Px.ls] at hx
  have HS := Lib.hid hs
  have HZ := Lib.hid hz
  have HPB : Hid (p.build = if p.linkBad = true then [] else if p.all.any bigAv = true then [] else p.all) := rfl
  obtain ⟨L, hL⟩ : ∃ L, L = p.ls := ⟨_, rfl⟩
  obtain ⟨B, hB⟩ : ∃ B, B = p.build := ⟨_, rfl⟩
  have HL := Lib.hid hL
  have HB := Lib.hid hB
  have hlen : L.length = 3 := by rw [hL]; rfl
  rw [← hB]
  clear hs hz hf ht hr hnf hnt hnr hL hB
  obtain ⟨A, hA⟩ : ∃ A, A = p.cells (.slice af nf cf) (.slice at_ nt ct) (.slice ar nr cr) := ⟨_, rfl⟩
  have HA := Lib.hid hA
  obtain ⟨w3, hw3⟩ : ∃ w3, w3 = (((w.alloc (.cells A 24)).alloc (.cells #[.int .i64 26, .int .i64 27, .int .i64 28] 3)).alloc (.cells #[.slice af nf cf, .slice at_ nt ct, .slice ar nr cr] 22)) := ⟨_, rfl⟩
  have s1 : (w.alloc (.cells A 24)).heap.size = w.heap.size + 1 := by simp
  have s2 : ((w.alloc (.cells A 24)).alloc (.cells #[.int .i64 26, .int .i64 27, .int .i64 28] 3)).heap.size = w.heap.size + 1 + 1 := by simp
  have B1 : Hid (Blk w3 w.heap.size 24 (p.cells (.slice af nf cf) (.slice at_ nt ct) (.slice ar nr cr))) := by show Blk _ _ _ _; rw [hw3, ← hA]; exact ((Blk.new _ _ _).alloc _).alloc _
  have B2 : Hid (Blk w3 (w.heap.size + 1) 3 #[.int .i64 26, .int .i64 27, .int .i64 28]) := by
    show Blk _ _ _ _
    rw [hw3, ← s1]
    exact (Blk.new _ _ _).alloc _
  have B3 : Hid (Blk w3 (w.heap.size + 1 + 1) 22 #[.slice af nf cf, .slice at_ nt ct, .slice ar nr cr]) := by
    show Blk _ _ _ _
    rw [hw3, ← s2]
    exact Blk.new _ _ _
  have U3 : Hid (Upd [] w w3) := by show Upd _ _ _; rw [hw3]; exact (((Upd.refl _ _).alloc _).alloc _).alloc _
  rw [hA] at hw3
  simp only [Px.cells] at hw3
  have HW := Lib.hid hw3
  clear hw3 hA s1 s2
  go_enter Tryz.func9, Tryz.ntmps9
  simp only [Px.val]
  go_wp2_with fail
  go_loopg [3, 18] 3 (fun m s3 s18 wr => ∃ (k : Nat) (ao : Option Addr) (cap : Nat) (own : List Nat), k + m = 3 ∧ s18 = .int .i64 k ∧ s3 = .slice ao k cap ∧ Own wr 67 5 (.slice ao k cap) k (avCells (p.link.take k)) own ∧ (∀ k, k ∈ own → w3.heap.size ≤ k) ∧ Upd [] w wr ∧ Upd [] w3 wr ∧ ∀ (j : Nat) (x : List Tg), j < k → L[j]? = some x → (putOpts x).2 = 0)
  case atStart => exact ⟨0, none, 0, [], rfl, rfl, rfl, Own.nil _ _ _, by simp, by rw [← HW.out]; exact U3.out, by rw [← HW.out]; exact Upd.refl _ _, fun j x hj => absurd hj (Nat.not_lt_zero _)⟩
  case round =>
    obtain ⟨k, ao, cap, own, hk, rfl, rfl, ho, hin, hu, hu3, hok⟩ := hrel
    have HU := Lib.hid hu
    have HU3 := Lib.hid hu3
    have HIN := Lib.hid hin
    have HO := Lib.hid ho
    have HOK := Lib.hid hok
    have hk3 : k ≤ 3 := by omega
    clear ho hin hok hu
    by_cases tk : k < 3
    · obtain ⟨x, hx⟩ : ∃ x, L[k]? = some x := ⟨_, List.getElem?_eq_getElem (by omega)⟩
      obtain ⟨ax, nx, cx, hax, hatx⟩ := HTG.out k x (by rw [← HL.out]; exact hx)
      have hcl := (B3.out.upd hu3 (by simp)).cell k
      rw [hax] at hcl
      have hck := (B2.out.upd hu3 (by simp)).cell k
      have hk26 : (#[Value.int .i64 26, Value.int .i64 27, Value.int .i64 28] : Array Value)[k]? = some (.int .i64 (26 + k)) := by
        match k, tk with
        | 0, _ => rfl
        | 1, _ => rfl
        | 2, _ => rfl
      rw [hk26] at hck
      have HX := Lib.hid hx
      have HAT := Lib.hid hatx
      clear hx hax hatx hk26 hu3
      obtain ⟨hlink, hxm⟩ := px_ls (by rw [← HL.out]; exact HX.out) tk
      have HXM := Lib.hid hxm
      have HLINK : Hid (p.link.take (k + 1) = p.link.take k ++ [textAv (26 + k) (encOpts x)]) := by
        show _ = _
        obtain ⟨h5, h6⟩ := List.getElem?_eq_some_iff.1 hlink
        rw [List.take_succ_eq_append_getElem h5, h6]
      clear hlink
      obtain ⟨b, e0, hp⟩ : ∃ b e, putOpts x = (b, e) := ⟨_, _, rfl⟩
      have HP := Lib.hid hp
      by_cases t0 : e0 = 0
      · subst t0
        obtain ⟨hb, hxl, hxs⟩ := putOpts_ok hp
        have hbz := putOpts_size x
        rw [hp] at hbz
        rw [← hb] at HLINK
        have HOK2 : Hid (∀ (j : Nat) (y : List Tg), j < k + 1 → L[j]? = some y → (putOpts y).2 = 0) := by
          intro j y hj hy
          by_cases hjk : j = k
          · subst hjk
            have := HX.out
            rw [this] at hy
            simp only [Option.some.injEq] at hy
            rw [← hy, HP.out]
          · exact HOK.out j y (by omega) hy
        have hw26 : True → wrap64 (26 + (k : Int)) = 26 + k := fun _ => IntWalk.wrap64_in _ (by omega)
        clear hp hb hxl hxs hxm
        go_wp2_with fail
        refine (putOptions_any x _ _ (HAT.out.upd HU.out) (HS.out x HXM.out)).mono ?_
        rintro e w4 ⟨rfl, hu4⟩
        rw [HP.out]
        have HO4 := Lib.hid (HO.out.upd hu4 (by simp))
        have HU4 : Hid (Upd [] w3 w4) := HU3.out.trans hu4
        have HUW : Hid (Upd [] w w4) := HU.out.trans hu4
        clear hu4 hcl hck
        have hck := (B2.out.upd HU4.out (by simp)).cell k
        rw [show (#[Value.int .i64 26, Value.int .i64 27, Value.int .i64 28] : Array Value)[k]? = some (.int .i64 (26 + k)) from (match k, tk with | 0, _ => rfl | 1, _ => rfl | 2, _ => rfl)] at hck
        go_wp2_with fail
        refine (dtext_any _ _ _).mono ?_
        rintro e w5 ⟨rfl, hu5⟩
        have U5 : Upd [] w5 (w5.alloc (.cells #[.bool true, .bool false, .int .i64 0, .int .i64 (26 + k), .string b] 67)) := (Upd.refl _ _).alloc _
        have HO5 := Lib.hid ((HO4.out.upd hu5 (by simp)).upd U5 (by simp))
        have HR5 := Lib.hid (avs1 w5 (textAv (26 + k) b))
        have HU5 := Lib.hid ((HU4.out.trans hu5).trans U5)
        have HUW5 := Lib.hid ((HUW.out.trans hu5).trans U5)
        have hsz5 := HUW5.out.size
        have hlow5 := HU5.out.size
        simp only [textAv] at HR5
        clear hu5 hck U5
        simp only [Av.agg, textAv]
        go_wp2_with (first
          | (at_builtin; refine wpList_append_Rd _ rfl (.tmp 30) (.tmp 37) 25 rfl 67 i0 _ 5 40 Tryz.underlying25 hi0 hz0 hz1 hz2 rfl (by decide) _ k _ _ (by simp [Act.eval]) HO5.out _ 1 _ (by simp [Act.eval]) HR5.out (by simp only [maxLen]; omega) (by omega) ?_; intro ao1 cap1 w6 own1 ho1 hin1 hu6; have HS6 := Lib.hid ho1; have HI6 := Lib.hid hin1; have HU6 := Lib.hid hu6; clear ho1 hin1 hu6))
        go_roundg (3 - (k + 1))
        case rel =>
          refine ⟨k + 1, ao1, cap1, own1, by omega, by go_num, rfl, ?_, fun y hy => ?_, ?_, ?_, HOK2.out⟩
          · rw [HLINK.out, avCells_append]; exact HS6.out
          · exact (HI6.out y hy).elim (fun h => HIN.out y h) (fun h => Nat.le_trans HU5.out.size h)
          · exact HUW5.out.trans' HU6.out (fun y hy => .inr (Nat.le_trans U3.out.size (HIN.out y hy)))
          · exact HU5.out.trans' HU6.out (fun y hy => .inr (HIN.out y hy))
        case measure => omega
      · have hne : (putOpts x).2 ≠ 0 := by rw [hp]; exact t0
        have HBE : Hid (B = []) := by show _ = _; rw [HB.out, HPB.out, linkBad_of hxm hne]; rfl
        have q0 : (e0 != 0) = true := by simpa using t0
        clear hp t0 hne
        go_wp2_with fail
        refine (putOptions_any x _ _ (HAT.out.upd HU.out) (HS.out x HXM.out)).mono ?_
        rintro e w4 ⟨rfl, hu4⟩
        rw [HP.out]
        go_wp2_with fail
        go_ret
        rw [HBE.out]
        exact ⟨_, rfl, OutAt.nil _ _, HU.out.trans hu4⟩
    · have HKE : Hid (k = 3) := by show _ = _; omega
      have hw3 : w.heap.size < w3.heap.size := B1.out.lt
      have HLB : Hid (p.linkBad = false) := by
        refine linkGood_of fun x hx => ?_
        obtain ⟨j, hj⟩ := List.getElem?_of_mem (by rw [HL.out]; exact hx : x ∈ L)
        have hjl : j < L.length := (List.getElem?_eq_some_iff.1 hj).1
        exact HOK.out j x (by have := HKE.out; omega) hj
      have HTK : Hid (p.link.take k = p.link) := List.take_of_length_le (by have := HKE.out; simp [Px.link]; omega)
      rw [HTK.out] at HO
      obtain ⟨q, rfl⟩ : ∃ q : Nat, q = k := ⟨_, rfl⟩
      have HOa := Lib.hid HO.out
      have HIa := Lib.hid HIN.out
      have HUa := Lib.hid HU3.out
      obtain ⟨aoa, rfl⟩ : ∃ x, x = ao := ⟨_, rfl⟩
      obtain ⟨capa, rfl⟩ : ∃ x, x = cap := ⟨_, rfl⟩
      obtain ⟨owna, rfl⟩ : ∃ x, x = own := ⟨_, rfl⟩
      obtain ⟨wa, rfl⟩ : ∃ x, x = wr := ⟨_, rfl⟩
      clear HTK HOK
      obtain ⟨⟨-, -, -, c3⟩, c4, c5, c6, c7⟩ := Px.cells_at (B1.out.upd HUa.out (by simp))
      by_cases t0 : p.kind = 0
      · have q0 : (p.kind != 0) = false := by simpa using t0
        have q2 : (p.kind == 2) = false := by simp; omega
        have q3 : (p.kind == 3) = false := by simp; omega
        have T0 := Lib.hid t0
        clear t0
        have HLE : Hid (p.link = p.all) := by show _ = _; simp [Px.all, Px.auth, T0.out]
        have HNE : Hid (q = p.all.length) := by show _ = _; rw [← HLE.out]; have := HKE.out; simp [Px.link]; omega
        have HOE : Hid (Own wa 67 5 (.slice aoa (q) capa) p.all.length (avCells p.all) owna) := by
          show Own _ _ _ _ _ _ _
          have h := HOa.out
          rw [HLE.out] at h
          rw [← HNE.out]
          exact h
        have HAE : Hid (AvsAt wa (.slice aoa (q) capa) p.all) := AvsAt.of_own HOE.out
        have HUW := Lib.hid (U3.out.trans HUa.out)
        have hszw := U3.out.size
        cases tb : p.all.any bigAv with
        | true =>
          have HBE : Hid (B = []) := by show _ = _; rw [HB.out, HPB.out, HLB.out, tb]; rfl
          have TB := Lib.hid tb
          clear tb
          go_wp2_with fail
          refine (containsAv0_any 29 bigAv p.all _ _ HAE.out (fun _ _ => by kernel_rfl) (fun t _ W _ => build1_any t W)).mono ?_
          rintro e wf ⟨rfl, huf⟩
          rw [TB.out]
          go_wp2_with fail
          go_ret
          rw [HBE.out]
          exact ⟨_, rfl, OutAt.nil _ _, HUW.out.trans huf⟩
        | false =>
          have HBE : Hid (B = p.all) := by show _ = _; rw [HB.out, HPB.out, HLB.out, tb]; rfl
          have TB := Lib.hid tb
          clear tb
          go_wp2_with fail
          refine (containsAv0_any 29 bigAv p.all _ _ HAE.out (fun _ _ => by kernel_rfl) (fun t _ W _ => build1_any t W)).mono ?_
          rintro e wf ⟨rfl, huf⟩
          rw [TB.out]
          go_wp2_with fail
          go_ret
          rw [HBE.out]
          exact ⟨_, rfl, ⟨_, HOE.out.upd huf (by simp), fun y hy => Nat.le_trans hszw (HIa.out y hy)⟩, HUW.out.trans huf⟩
      have q0 : (p.kind != 0) = true := by simpa using t0
      have T0 := Lib.hid t0
      clear t0
      by_cases t2 : p.kind = 2
      · have q2 : (p.kind == 2) = true := by simpa using t2
        have T2 := Lib.hid t2
        clear t2
        go_wp2_with fail
        refine (num_ok 29 p.kind 2 (by omega) _).mono ?_
        rintro e wbc ⟨rfl, hu5⟩
        have UA : Upd [] wbc (wbc.alloc (.cells #[.bool true, .bool false, .int .i64 0, .int .i64 (29), .string (be 2 p.kind)] 67)) := (Upd.refl _ _).alloc _
        have HOx := Lib.hid ((HOa.out.upd hu5 (by simp)).upd UA (by simp))
        have HRx : Hid (Rd (wbc.alloc (.cells #[.bool true, .bool false, .int .i64 0, .int .i64 (29), .string (be 2 p.kind)] 67)) 5 (.slice (some ⟨wbc.heap.size, 0, none⟩) 1 1) 1 (avCells [(numAv 29 p.kind 2)])) := avs1 wbc (numAv 29 p.kind 2)
        have HUx := Lib.hid ((HUa.out.trans hu5).trans UA)
        have HIx := Lib.hid HIa.out
        clear hu5 UA
        simp only [Av.agg, textAv, numAv]
        go_wp2_with (first
          | (at_builtin; refine wpList_append_Rd _ rfl (.tmp 43) (.tmp 47) 25 rfl 67 i0 _ 5 40 Tryz.underlying25 hi0 hz0 hz1 hz2 rfl (by decide) _ (q) _ _ (by simp [Act.eval]) HOx.out _ 1 _ (by simp [Act.eval]) HRx.out (by simp only [maxLen]; omega) (by omega) ?_; intro aob capb wb ownb ho1 hin1 hu6; have HOb : Hid (Own wb 67 5 (.slice aob (q + 1) capb) (q + 1) (avCells (p.link ++ [(numAv 29 p.kind 2)])) ownb) := (by show Own _ _ _ _ _ _ _; rw [avCells_append]; exact ho1); have HIb : Hid (∀ y, y ∈ ownb → w3.heap.size ≤ y) := (fun y hy => (hin1 y hy).elim (fun h => HIx.out y h) (fun h => Nat.le_trans HUx.out.size h)); have HUb : Hid (Upd [] w3 wb) := HUx.out.trans' hu6 (fun y hy => .inr (HIx.out y hy)); clear ho1 hin1 hu6 c3 c4 c5 c6 c7; obtain ⟨⟨-, -, -, c3⟩, c4, c5, c6, c7⟩ := Px.cells_at (B1.out.upd HUb.out (by simp))))
        clear HOx HRx HUx HIx
        obtain ⟨nm, hnm⟩ : ∃ x, x = p.name := ⟨_, rfl⟩
        obtain ⟨i8, hi8⟩ : ∃ x, x = low8 p.id := ⟨_, rfl⟩
        have HI8 : Hid (bits .and .i64 p.id 255 = i8) := hi8.symm
        obtain ⟨b2, hb2⟩ : ∃ x, x = be 2 i8 := ⟨_, rfl⟩
        have HB2 := Lib.hid hb2
        have HNM := Lib.hid hnm
        have HNO : Hid (w.heap.size ∉ ownb) := fun h => by have := HIb.out _ h; omega
        clear c3 c4 c5 c6 c7 hnm hi8 hb2
        refine wp_region_chain [some (.slice aob (q + 1) capb), some (.pointer (some ⟨w.heap.size, 5, none⟩)), some (.string nm), none, some (.pointer (some ⟨w.heap.size, 4, none⟩)), some (.int .i64 p.id), some (.int .i64 i8), none, none, none, none] [3,7,8,9,10] (b14A wb ownb (.slice aob (q + 1) capb) (q + 1) (avCells (p.link ++ [numAv 29 p.kind 2])) nm i8) [(0, 3), (0, 0), (0, 0), (0, 0), (0, 1), (0, 1), (0, 1), (1, 1), (2, 2), (3, 3), (4, 4)] (by kernel_rfl) (by kernel_rfl) (by kernel_rfl) (by kernel_rfl) (by kernel_rfl) (by kernel_rfl) (⟨(Upd.refl _ _).drew, HOb.out⟩) ?_ ?_
        · refine StepsC.cons ?_ (StepsC.cons ?_ (StepsC.cons ?_ (StepsC.cons ?_ (StepsC.cons ?_ (StepsC.cons ?_ (StepsC.cons ?_ (StepsC.cons ?_ (StepsC.cons ?_ (StepsC.cons ?_ (StepsC.cons ?_ StepsC.nil))))))))))
          · refine chain_is _ (.inl rfl) ⟨_, rfl⟩ (by kernel_rfl) rfl ?_
            intro a W kst l0 h0 A0 hF hD
            have e3 : a.tmps[3]?.getD undef = _ := (ev a 3).symm.trans (hF 3 (by kernel_rfl))
            clear hF hD
            go_simp
          · refine chain_is _ (.inl rfl) ⟨_, rfl⟩ (by kernel_rfl) rfl ?_
            intro a W kst l0 h0 A0 hF hD
            have k0 : kst = 0 := Nat.le_antisymm h0 l0
            subst k0
            clear l0 h0
            have e1 : a.tmps[1]?.getD undef = _ := (ev a 1).symm.trans (hF 1 (by kernel_rfl))
            clear hF hD
            go_simp
          · refine chain_is _ (.inl rfl) ⟨_, rfl⟩ (by kernel_rfl) rfl ?_
            intro a W kst l0 h0 A0 hF hD
            have k0 : kst = 0 := Nat.le_antisymm h0 l0
            subst k0
            clear l0 h0
            have e58 : a.tmps[58]?.getD undef = .pointer (some ⟨w.heap.size, 5, none⟩) := (ev a 58).symm.trans (hD _ (Array.mem_of_getElem? (i := 0) rfl) rfl)
            clear hF hD
            have hu := A0.1
            have g5 := ((B1.out.upd HUb.out (by simp)).upd hu (by simpa using HNO.out)).cell 5
            have hg := HNM.out
            simp [Px.cells] at g5
            rw [← hg] at g5
            go_simp
          · refine chain_call (.inl rfl) ⟨_, rfl⟩ (by kernel_rfl) ?_
            intro a W kst l0 h0 A0 hF hD
            have k0 : kst = 0 := Nat.le_antisymm h0 l0
            subst k0
            clear l0 h0
            have e59 : a.tmps[59]?.getD undef = .string nm := (ev a 59).symm.trans (hD _ (Array.mem_of_getElem? (i := 0) rfl) rfl)
            clear hF hD
            obtain ⟨hu, h1⟩ := A0
            refine ⟨_, _, by (go_simp; first | done | rfl | exact ⟨rfl, rfl⟩), ?_⟩
            refine (dtext_any 30 nm _).mono ?_
            rintro e wz ⟨rfl, hu2⟩
            exact ⟨_, rfl, trivial, hu.trans hu2.more, h1.upd hu2 (by simp), rfl⟩
          · refine chain_is _ (.inl rfl) ⟨_, rfl⟩ (by kernel_rfl) rfl ?_
            intro a W kst l0 h0 A0 hF hD
            have e1 : a.tmps[1]?.getD undef = _ := (ev a 1).symm.trans (hF 1 (by kernel_rfl))
            clear hF hD
            go_simp
          · refine chain_is _ (.inl rfl) ⟨_, rfl⟩ (by kernel_rfl) rfl ?_
            intro a W kst l0 h0 A0 hF hD
            have e61 : a.tmps[61]?.getD undef = .pointer (some ⟨w.heap.size, 4, none⟩) := (ev a 61).symm.trans (hD _ (Array.mem_of_getElem? (i := 0) rfl) rfl)
            clear hF hD
            have hu := A0.1
            have g4 := ((B1.out.upd HUb.out (by simp)).upd hu (by simpa using HNO.out)).cell 4
            simp [Px.cells] at g4
            go_simp
          · refine chain_is _ (.inl rfl) ⟨_, rfl⟩ (by kernel_rfl) rfl ?_
            intro a W kst l0 h0 A0 hF hD
            have e62 : a.tmps[62]?.getD undef = .int .i64 p.id := (ev a 62).symm.trans (hD _ (Array.mem_of_getElem? (i := 0) rfl) rfl)
            clear hF hD
            have := HI8.out
            go_simp
          · refine chain_call (.inl rfl) ⟨_, rfl⟩ (by kernel_rfl) ?_
            intro a W kst l0 h0 A0 hF hD
            have k0 : kst = 1 := Nat.le_antisymm h0 l0
            subst k0
            clear l0 h0
            have e63 : a.tmps[63]?.getD undef = .int .i64 i8 := (ev a 63).symm.trans (hD _ (Array.mem_of_getElem? (i := 0) rfl) rfl)
            clear hF hD
            obtain ⟨hu, h1, h2⟩ := A0
            refine ⟨_, _, by (go_simp; first | done | rfl | exact ⟨rfl, rfl⟩), ?_⟩
            refine (num_ok 32 i8 2 (by omega) _).mono ?_
            rintro e wz ⟨rfl, hu2⟩
            exact ⟨_, rfl, trivial, hu.trans hu2.more, h1.upd hu2 (by simp), h2, rfl⟩
          · refine chain_run (.inl rfl) ⟨_, rfl⟩ (by kernel_rfl) ?_
            intro a W kst l0 h0 A0 hF hD
            have k0 : kst = 2 := Nat.le_antisymm h0 l0
            subst k0
            clear l0 h0
            clear hF hD
            obtain ⟨hu, h1, h2, h3⟩ := A0
            have e60 : a.tmps[60]?.getD undef = _ := (ev a 60).symm.trans h2
            have e64 : a.tmps[64]?.getD undef = _ := (ev a 64).symm.trans h3
            simp only [Av.agg, textAv, numAv] at e60 e64
            rw [← HB2.out] at e64
            exact ⟨.slice (some ⟨W.heap.size, 0, none⟩) 2 2, W.alloc (.cells #[.bool true, .bool false, .int .i64 0, .int .i64 30, .string nm, .bool true, .bool false, .int .i64 0, .int .i64 32, .string b2] 67), by go_simp, trivial, hu.alloc _, h1.alloc _, by rw [numAv, ← HB2.out]; exact avs2 W ⟨true, false, 0, 30, nm⟩ ⟨true, false, 0, 32, b2⟩⟩
          · refine chain_run (.inl rfl) ⟨_, rfl⟩ (by kernel_rfl) ?_
            intro a W kst l0 h0 A0 hF hD
            have k0 : kst = 3 := Nat.le_antisymm h0 l0
            subst k0
            clear l0 h0
            have e57 : a.tmps[57]?.getD undef = .slice aob (q + 1) capb := (ev a 57).symm.trans (hD _ (Array.mem_of_getElem? (i := 0) rfl) rfl)
            clear hF hD
            obtain ⟨hu, h1, h2⟩ := A0
            have e65 : Rd W 5 (a.tmps[65]?.getD undef) 2 (avCells [textAv 30 nm, numAv 32 i8 2]) := by rw [← ev]; exact h2
            obtain ⟨ao2, cap2, w2, own2, r1, r2, r3, r4⟩ := run_append_Rd (P := Tryz.prog) W 25 25 67 i0 _ 5 40 Tryz.underlying25 hi0 hz0 hz1 hz2 rfl (by decide) _ _ _ _ h1 _ 2 _ e65 (by simp only [maxLen]; omega) (by omega)
            refine ⟨_, w2, ?_, trivial, hu.trans' r4 (fun y hy => .inl hy), ao2, cap2, own2, rfl, r2, fun y hy => (r3 y hy).imp id (fun h => Nat.le_trans hu.size h)⟩
            simp only [execOp, resolve, invoke, builtin, Sem.run_bind, Sem.run_pure, Result.andThen_ok, List.map_toArray, List.map_cons, List.map_nil, ev, e57, r1]
          · refine chain_run (.inl rfl) ⟨_, rfl⟩ (by kernel_rfl) ?_
            intro a W kst l0 h0 A0 hF hD
            have k0 : kst = 4 := Nat.le_antisymm h0 l0
            subst k0
            clear l0 h0
            clear hF hD
            obtain ⟨hu, ao2, cap2, own2, h1, h2, h3⟩ := A0
            have e66 : a.tmps[66]?.getD undef = _ := (ev a 66).symm.trans h1
            exact ⟨_, W, by (go_simp; first | done | rfl | exact ⟨rfl, rfl⟩), trivial, hu, ao2, cap2, own2, rfl, h2, h3⟩
        intro vals W hv hA
        have v0 : vals 0 = .slice aob (q + 1) capb := hv 0 (by decide)
        have v1 : vals 1 = .pointer (some ⟨w.heap.size, 5, none⟩) := hv 1 (by decide)
        have v2 : vals 2 = .string nm := hv 2 (by decide)
        have v4 : vals 4 = .pointer (some ⟨w.heap.size, 4, none⟩) := hv 4 (by decide)
        have v5 : vals 5 = .int .i64 p.id := hv 5 (by decide)
        have v6 : vals 6 = .int .i64 i8 := hv 6 (by decide)
        clear hv
        obtain ⟨hu, aoc, capc, ownc, hv10, ho9, hin9⟩ := hA
        have v10 : vals 10 = .slice aoc (q + 1 + 2) capc := hv10
        simp only [putAll, Act.put, Nat.zero_add, Nat.reduceAdd, v10, v0, v1, v2, v4, v5, v6, List.setIfInBounds_toArray, List.set_cons_zero, List.set_cons_succ]
        clear v0 v1 v2 v4 v5 v6
        have HOc : Hid (Own W 67 5 (.slice aoc (q + 1 + 2) capc) (q + 1 + 2) (avCells ((p.link ++ [numAv 29 p.kind 2]) ++ [textAv 30 p.name, numAv 32 (low8 p.id) 2])) ownc) := by show Own _ _ _ _ _ _ _; have h := ho9; rw [HNM.out, ← HI8.out, ← avCells_append] at h; exact h
        have HIc : Hid (∀ y, y ∈ ownc → w3.heap.size ≤ y) := fun y hy => (hin9 y hy).elim (fun h => HIb.out y h) (fun h => Nat.le_trans HUb.out.size h)
        have HUc : Hid (Upd [] w3 W) := HUb.out.trans' hu (fun y hy => .inr (HIb.out y hy))
        clear hu hv10 v10 ho9 hin9
        obtain ⟨wc, hwc⟩ : ∃ x, x = W := ⟨_, rfl⟩
        subst hwc
        obtain ⟨⟨-, -, -, c3⟩, c4, c5, c6, c7⟩ := Px.cells_at (B1.out.upd HUc.out (by simp))
        go_wp2_with fail
        refine (dtext_any 31 p.value _).mono ?_
        rintro e wdc ⟨rfl, hu5⟩
        have UA : Upd [] wdc (wdc.alloc (.cells #[.bool true, .bool false, .int .i64 0, .int .i64 (31), .string (p.value)] 67)) := (Upd.refl _ _).alloc _
        have HOx := Lib.hid ((HOc.out.upd hu5 (by simp)).upd UA (by simp))
        have HRx : Hid (Rd (wdc.alloc (.cells #[.bool true, .bool false, .int .i64 0, .int .i64 (31), .string (p.value)] 67)) 5 (.slice (some ⟨wdc.heap.size, 0, none⟩) 1 1) 1 (avCells [(textAv 31 p.value)])) := avs1 wdc (textAv 31 p.value)
        have HUx := Lib.hid ((HUc.out.trans hu5).trans UA)
        have HIx := Lib.hid HIc.out
        clear hu5 UA
        simp only [Av.agg, textAv, numAv]
        go_wp2_with (first
          | (at_builtin; refine wpList_append_Rd _ rfl (.tmp 70) (.tmp 74) 25 rfl 67 i0 _ 5 40 Tryz.underlying25 hi0 hz0 hz1 hz2 rfl (by decide) _ (q + 1 + 2) _ _ (by simp [Act.eval]) HOx.out _ 1 _ (by simp [Act.eval]) HRx.out (by simp only [maxLen]; omega) (by omega) ?_; intro aod capd wd ownd ho1 hin1 hu6; have HOd : Hid (Own wd 67 5 (.slice aod (q + 1 + 2 + 1) capd) (q + 1 + 2 + 1) (avCells ((p.link ++ [numAv 29 p.kind 2]) ++ [textAv 30 p.name, numAv 32 (low8 p.id) 2] ++ [(textAv 31 p.value)])) ownd) := (by show Own _ _ _ _ _ _ _; rw [avCells_append]; exact ho1); have HId : Hid (∀ y, y ∈ ownd → w3.heap.size ≤ y) := (fun y hy => (hin1 y hy).elim (fun h => HIx.out y h) (fun h => Nat.le_trans HUx.out.size h)); have HUd : Hid (Upd [] w3 wd) := HUx.out.trans' hu6 (fun y hy => .inr (HIx.out y hy)); clear ho1 hin1 hu6 c3 c4 c5 c6 c7; obtain ⟨⟨-, -, -, c3⟩, c4, c5, c6, c7⟩ := Px.cells_at (B1.out.upd HUd.out (by simp))))
        clear HOx HRx HUx HIx
        refine (dtext_any 33 p.reply _).mono ?_
        rintro e wec ⟨rfl, hu5⟩
        have UA : Upd [] wec (wec.alloc (.cells #[.bool true, .bool false, .int .i64 0, .int .i64 (33), .string (p.reply)] 67)) := (Upd.refl _ _).alloc _
        have HOx := Lib.hid ((HOd.out.upd hu5 (by simp)).upd UA (by simp))
        have HRx : Hid (Rd (wec.alloc (.cells #[.bool true, .bool false, .int .i64 0, .int .i64 (33), .string (p.reply)] 67)) 5 (.slice (some ⟨wec.heap.size, 0, none⟩) 1 1) 1 (avCells [(textAv 33 p.reply)])) := avs1 wec (textAv 33 p.reply)
        have HUx := Lib.hid ((HUd.out.trans hu5).trans UA)
        have HIx := Lib.hid HId.out
        clear hu5 UA
        simp only [Av.agg, textAv, numAv]
        go_wp2_with (first
          | (at_builtin; refine wpList_append_Rd _ rfl (.tmp 76) (.tmp 80) 25 rfl 67 i0 _ 5 40 Tryz.underlying25 hi0 hz0 hz1 hz2 rfl (by decide) _ (q + 1 + 2 + 1) _ _ (by simp [Act.eval]) HOx.out _ 1 _ (by simp [Act.eval]) HRx.out (by simp only [maxLen]; omega) (by omega) ?_; intro aoe cape we owne ho1 hin1 hu6; have HOe : Hid (Own we 67 5 (.slice aoe (q + 1 + 2 + 1 + 1) cape) (q + 1 + 2 + 1 + 1) (avCells (((p.link ++ [numAv 29 p.kind 2]) ++ [textAv 30 p.name, numAv 32 (low8 p.id) 2]) ++ [(textAv 31 p.value)] ++ [(textAv 33 p.reply)])) owne) := (by show Own _ _ _ _ _ _ _; rw [avCells_append]; exact ho1); have HIe : Hid (∀ y, y ∈ owne → w3.heap.size ≤ y) := (fun y hy => (hin1 y hy).elim (fun h => HIx.out y h) (fun h => Nat.le_trans HUx.out.size h)); have HUe : Hid (Upd [] w3 we) := HUx.out.trans' hu6 (fun y hy => .inr (HIx.out y hy)); clear ho1 hin1 hu6 c3 c4 c5 c6 c7; obtain ⟨⟨-, -, -, c3⟩, c4, c5, c6, c7⟩ := Px.cells_at (B1.out.upd HUe.out (by simp))))
        clear HOx HRx HUx HIx
        have HLE : Hid ((((p.link ++ [numAv 29 p.kind 2]) ++ [textAv 30 p.name, numAv 32 (low8 p.id) 2]) ++ [(textAv 31 p.value)]) ++ [(textAv 33 p.reply)] = p.all) := by show _ = _; simp [Px.all, Px.auth, T2.out]
        have HNE : Hid (q + 1 + 2 + 1 + 1 = p.all.length) := by show _ = _; rw [← HLE.out]; have := HKE.out; simp [Px.link]; omega
        have HOE : Hid (Own we 67 5 (.slice aoe (q + 1 + 2 + 1 + 1) cape) p.all.length (avCells p.all) owne) := by
          show Own _ _ _ _ _ _ _
          have h := HOe.out
          rw [HLE.out] at h
          rw [← HNE.out]
          exact h
        have HAE : Hid (AvsAt we (.slice aoe (q + 1 + 2 + 1 + 1) cape) p.all) := AvsAt.of_own HOE.out
        have HUW := Lib.hid (U3.out.trans HUe.out)
        have hszw := U3.out.size
        cases tb : p.all.any bigAv with
        | true =>
          have HBE : Hid (B = []) := by show _ = _; rw [HB.out, HPB.out, HLB.out, tb]; rfl
          have TB := Lib.hid tb
          clear tb
          refine (containsAv0_any 29 bigAv p.all _ _ HAE.out (fun _ _ => by kernel_rfl) (fun t _ W _ => build1_any t W)).mono ?_
          rintro e wf ⟨rfl, huf⟩
          rw [TB.out]
          go_wp2_with fail
          go_ret
          rw [HBE.out]
          exact ⟨_, rfl, OutAt.nil _ _, HUW.out.trans huf⟩
        | false =>
          have HBE : Hid (B = p.all) := by show _ = _; rw [HB.out, HPB.out, HLB.out, tb]; rfl
          have TB := Lib.hid tb
          clear tb
          refine (containsAv0_any 29 bigAv p.all _ _ HAE.out (fun _ _ => by kernel_rfl) (fun t _ W _ => build1_any t W)).mono ?_
          rintro e wf ⟨rfl, huf⟩
          rw [TB.out]
          go_wp2_with fail
          go_ret
          rw [HBE.out]
          exact ⟨_, rfl, ⟨_, HOE.out.upd huf (by simp), fun y hy => Nat.le_trans hszw (HIe.out y hy)⟩, HUW.out.trans huf⟩
      by_cases t3 : p.kind = 3
      · have q2 : (p.kind == 2) = false := by simpa using t2
        have q3 : (p.kind == 3) = true := by simpa using t3
        have T3 := Lib.hid t3
        clear t2 t3
        go_wp2_with fail
        refine (num_ok 29 p.kind 2 (by omega) _).mono ?_
        rintro e wbc ⟨rfl, hu5⟩
        have UA : Upd [] wbc (wbc.alloc (.cells #[.bool true, .bool false, .int .i64 0, .int .i64 (29), .string (be 2 p.kind)] 67)) := (Upd.refl _ _).alloc _
        have HOx := Lib.hid ((HOa.out.upd hu5 (by simp)).upd UA (by simp))
        have HRx : Hid (Rd (wbc.alloc (.cells #[.bool true, .bool false, .int .i64 0, .int .i64 (29), .string (be 2 p.kind)] 67)) 5 (.slice (some ⟨wbc.heap.size, 0, none⟩) 1 1) 1 (avCells [(numAv 29 p.kind 2)])) := avs1 wbc (numAv 29 p.kind 2)
        have HUx := Lib.hid ((HUa.out.trans hu5).trans UA)
        have HIx := Lib.hid HIa.out
        clear hu5 UA
        simp only [Av.agg, textAv, numAv]
        go_wp2_with (first
          | (at_builtin; refine wpList_append_Rd _ rfl (.tmp 43) (.tmp 47) 25 rfl 67 i0 _ 5 40 Tryz.underlying25 hi0 hz0 hz1 hz2 rfl (by decide) _ (q) _ _ (by simp [Act.eval]) HOx.out _ 1 _ (by simp [Act.eval]) HRx.out (by simp only [maxLen]; omega) (by omega) ?_; intro aob capb wb ownb ho1 hin1 hu6; have HOb : Hid (Own wb 67 5 (.slice aob (q + 1) capb) (q + 1) (avCells (p.link ++ [(numAv 29 p.kind 2)])) ownb) := (by show Own _ _ _ _ _ _ _; rw [avCells_append]; exact ho1); have HIb : Hid (∀ y, y ∈ ownb → w3.heap.size ≤ y) := (fun y hy => (hin1 y hy).elim (fun h => HIx.out y h) (fun h => Nat.le_trans HUx.out.size h)); have HUb : Hid (Upd [] w3 wb) := HUx.out.trans' hu6 (fun y hy => .inr (HIx.out y hy)); clear ho1 hin1 hu6 c3 c4 c5 c6 c7; obtain ⟨⟨-, -, -, c3⟩, c4, c5, c6, c7⟩ := Px.cells_at (B1.out.upd HUb.out (by simp))))
        clear HOx HRx HUx HIx
        obtain ⟨nm, hnm⟩ : ∃ x, x = p.name := ⟨_, rfl⟩
        obtain ⟨i8, hi8⟩ : ∃ x, x = low8 p.id := ⟨_, rfl⟩
        have HI8 : Hid (bits .and .i64 p.id 255 = i8) := hi8.symm
        obtain ⟨b2, hb2⟩ : ∃ x, x = be 2 i8 := ⟨_, rfl⟩
        have HB2 := Lib.hid hb2
        have HNM := Lib.hid hnm
        have HNO : Hid (w.heap.size ∉ ownb) := fun h => by have := HIb.out _ h; omega
        clear c3 c4 c5 c6 c7 hnm hi8 hb2
        refine wp_region_chain [some (.slice aob (q + 1) capb), some (.pointer (some ⟨w.heap.size, 5, none⟩)), some (.string nm), none, some (.pointer (some ⟨w.heap.size, 4, none⟩)), some (.int .i64 p.id), some (.int .i64 i8), none, none, none, none] [3,7,8,9,10] (b14A wb ownb (.slice aob (q + 1) capb) (q + 1) (avCells (p.link ++ [numAv 29 p.kind 2])) nm i8) [(0, 3), (0, 0), (0, 0), (0, 0), (0, 1), (0, 1), (0, 1), (1, 1), (2, 2), (3, 3), (4, 4)] (by kernel_rfl) (by kernel_rfl) (by kernel_rfl) (by kernel_rfl) (by kernel_rfl) (by kernel_rfl) (⟨(Upd.refl _ _).drew, HOb.out⟩) ?_ ?_
        · refine StepsC.cons ?_ (StepsC.cons ?_ (StepsC.cons ?_ (StepsC.cons ?_ (StepsC.cons ?_ (StepsC.cons ?_ (StepsC.cons ?_ (StepsC.cons ?_ (StepsC.cons ?_ (StepsC.cons ?_ (StepsC.cons ?_ StepsC.nil))))))))))
          · refine chain_is _ (.inl rfl) ⟨_, rfl⟩ (by kernel_rfl) rfl ?_
            intro a W kst l0 h0 A0 hF hD
            have e3 : a.tmps[3]?.getD undef = _ := (ev a 3).symm.trans (hF 3 (by kernel_rfl))
            clear hF hD
            go_simp
          · refine chain_is _ (.inl rfl) ⟨_, rfl⟩ (by kernel_rfl) rfl ?_
            intro a W kst l0 h0 A0 hF hD
            have k0 : kst = 0 := Nat.le_antisymm h0 l0
            subst k0
            clear l0 h0
            have e1 : a.tmps[1]?.getD undef = _ := (ev a 1).symm.trans (hF 1 (by kernel_rfl))
            clear hF hD
            go_simp
          · refine chain_is _ (.inl rfl) ⟨_, rfl⟩ (by kernel_rfl) rfl ?_
            intro a W kst l0 h0 A0 hF hD
            have k0 : kst = 0 := Nat.le_antisymm h0 l0
            subst k0
            clear l0 h0
            have e58 : a.tmps[58]?.getD undef = .pointer (some ⟨w.heap.size, 5, none⟩) := (ev a 58).symm.trans (hD _ (Array.mem_of_getElem? (i := 0) rfl) rfl)
            clear hF hD
            have hu := A0.1
            have g5 := ((B1.out.upd HUb.out (by simp)).upd hu (by simpa using HNO.out)).cell 5
            have hg := HNM.out
            simp [Px.cells] at g5
            rw [← hg] at g5
            go_simp
          · refine chain_call (.inl rfl) ⟨_, rfl⟩ (by kernel_rfl) ?_
            intro a W kst l0 h0 A0 hF hD
            have k0 : kst = 0 := Nat.le_antisymm h0 l0
            subst k0
            clear l0 h0
            have e59 : a.tmps[59]?.getD undef = .string nm := (ev a 59).symm.trans (hD _ (Array.mem_of_getElem? (i := 0) rfl) rfl)
            clear hF hD
            obtain ⟨hu, h1⟩ := A0
            refine ⟨_, _, by (go_simp; first | done | rfl | exact ⟨rfl, rfl⟩), ?_⟩
            refine (dtext_any 30 nm _).mono ?_
            rintro e wz ⟨rfl, hu2⟩
            exact ⟨_, rfl, trivial, hu.trans hu2.more, h1.upd hu2 (by simp), rfl⟩
          · refine chain_is _ (.inl rfl) ⟨_, rfl⟩ (by kernel_rfl) rfl ?_
            intro a W kst l0 h0 A0 hF hD
            have e1 : a.tmps[1]?.getD undef = _ := (ev a 1).symm.trans (hF 1 (by kernel_rfl))
            clear hF hD
            go_simp
          · refine chain_is _ (.inl rfl) ⟨_, rfl⟩ (by kernel_rfl) rfl ?_
            intro a W kst l0 h0 A0 hF hD
            have e61 : a.tmps[61]?.getD undef = .pointer (some ⟨w.heap.size, 4, none⟩) := (ev a 61).symm.trans (hD _ (Array.mem_of_getElem? (i := 0) rfl) rfl)
            clear hF hD
            have hu := A0.1
            have g4 := ((B1.out.upd HUb.out (by simp)).upd hu (by simpa using HNO.out)).cell 4
            simp [Px.cells] at g4
            go_simp
          · refine chain_is _ (.inl rfl) ⟨_, rfl⟩ (by kernel_rfl) rfl ?_
            intro a W kst l0 h0 A0 hF hD
            have e62 : a.tmps[62]?.getD undef = .int .i64 p.id := (ev a 62).symm.trans (hD _ (Array.mem_of_getElem? (i := 0) rfl) rfl)
            clear hF hD
            have := HI8.out
            go_simp
          · refine chain_call (.inl rfl) ⟨_, rfl⟩ (by kernel_rfl) ?_
            intro a W kst l0 h0 A0 hF hD
            have k0 : kst = 1 := Nat.le_antisymm h0 l0
            subst k0
            clear l0 h0
            have e63 : a.tmps[63]?.getD undef = .int .i64 i8 := (ev a 63).symm.trans (hD _ (Array.mem_of_getElem? (i := 0) rfl) rfl)
            clear hF hD
            obtain ⟨hu, h1, h2⟩ := A0
            refine ⟨_, _, by (go_simp; first | done | rfl | exact ⟨rfl, rfl⟩), ?_⟩
            refine (num_ok 32 i8 2 (by omega) _).mono ?_
            rintro e wz ⟨rfl, hu2⟩
            exact ⟨_, rfl, trivial, hu.trans hu2.more, h1.upd hu2 (by simp), h2, rfl⟩
          · refine chain_run (.inl rfl) ⟨_, rfl⟩ (by kernel_rfl) ?_
            intro a W kst l0 h0 A0 hF hD
            have k0 : kst = 2 := Nat.le_antisymm h0 l0
            subst k0
            clear l0 h0
            clear hF hD
            obtain ⟨hu, h1, h2, h3⟩ := A0
            have e60 : a.tmps[60]?.getD undef = _ := (ev a 60).symm.trans h2
            have e64 : a.tmps[64]?.getD undef = _ := (ev a 64).symm.trans h3
            simp only [Av.agg, textAv, numAv] at e60 e64
            rw [← HB2.out] at e64
            exact ⟨.slice (some ⟨W.heap.size, 0, none⟩) 2 2, W.alloc (.cells #[.bool true, .bool false, .int .i64 0, .int .i64 30, .string nm, .bool true, .bool false, .int .i64 0, .int .i64 32, .string b2] 67), by go_simp, trivial, hu.alloc _, h1.alloc _, by rw [numAv, ← HB2.out]; exact avs2 W ⟨true, false, 0, 30, nm⟩ ⟨true, false, 0, 32, b2⟩⟩
          · refine chain_run (.inl rfl) ⟨_, rfl⟩ (by kernel_rfl) ?_
            intro a W kst l0 h0 A0 hF hD
            have k0 : kst = 3 := Nat.le_antisymm h0 l0
            subst k0
            clear l0 h0
            have e57 : a.tmps[57]?.getD undef = .slice aob (q + 1) capb := (ev a 57).symm.trans (hD _ (Array.mem_of_getElem? (i := 0) rfl) rfl)
            clear hF hD
            obtain ⟨hu, h1, h2⟩ := A0
            have e65 : Rd W 5 (a.tmps[65]?.getD undef) 2 (avCells [textAv 30 nm, numAv 32 i8 2]) := by rw [← ev]; exact h2
            obtain ⟨ao2, cap2, w2, own2, r1, r2, r3, r4⟩ := run_append_Rd (P := Tryz.prog) W 25 25 67 i0 _ 5 40 Tryz.underlying25 hi0 hz0 hz1 hz2 rfl (by decide) _ _ _ _ h1 _ 2 _ e65 (by simp only [maxLen]; omega) (by omega)
            refine ⟨_, w2, ?_, trivial, hu.trans' r4 (fun y hy => .inl hy), ao2, cap2, own2, rfl, r2, fun y hy => (r3 y hy).imp id (fun h => Nat.le_trans hu.size h)⟩
            simp only [execOp, resolve, invoke, builtin, Sem.run_bind, Sem.run_pure, Result.andThen_ok, List.map_toArray, List.map_cons, List.map_nil, ev, e57, r1]
          · refine chain_run (.inl rfl) ⟨_, rfl⟩ (by kernel_rfl) ?_
            intro a W kst l0 h0 A0 hF hD
            have k0 : kst = 4 := Nat.le_antisymm h0 l0
            subst k0
            clear l0 h0
            clear hF hD
            obtain ⟨hu, ao2, cap2, own2, h1, h2, h3⟩ := A0
            have e66 : a.tmps[66]?.getD undef = _ := (ev a 66).symm.trans h1
            exact ⟨_, W, by (go_simp; first | done | rfl | exact ⟨rfl, rfl⟩), trivial, hu, ao2, cap2, own2, rfl, h2, h3⟩
        intro vals W hv hA
        have v0 : vals 0 = .slice aob (q + 1) capb := hv 0 (by decide)
        have v1 : vals 1 = .pointer (some ⟨w.heap.size, 5, none⟩) := hv 1 (by decide)
        have v2 : vals 2 = .string nm := hv 2 (by decide)
        have v4 : vals 4 = .pointer (some ⟨w.heap.size, 4, none⟩) := hv 4 (by decide)
        have v5 : vals 5 = .int .i64 p.id := hv 5 (by decide)
        have v6 : vals 6 = .int .i64 i8 := hv 6 (by decide)
        clear hv
        obtain ⟨hu, aoc, capc, ownc, hv10, ho9, hin9⟩ := hA
        have v10 : vals 10 = .slice aoc (q + 1 + 2) capc := hv10
        simp only [putAll, Act.put, Nat.zero_add, Nat.reduceAdd, v10, v0, v1, v2, v4, v5, v6, List.setIfInBounds_toArray, List.set_cons_zero, List.set_cons_succ]
        clear v0 v1 v2 v4 v5 v6
        have HOc : Hid (Own W 67 5 (.slice aoc (q + 1 + 2) capc) (q + 1 + 2) (avCells ((p.link ++ [numAv 29 p.kind 2]) ++ [textAv 30 p.name, numAv 32 (low8 p.id) 2])) ownc) := by show Own _ _ _ _ _ _ _; have h := ho9; rw [HNM.out, ← HI8.out, ← avCells_append] at h; exact h
        have HIc : Hid (∀ y, y ∈ ownc → w3.heap.size ≤ y) := fun y hy => (hin9 y hy).elim (fun h => HIb.out y h) (fun h => Nat.le_trans HUb.out.size h)
        have HUc : Hid (Upd [] w3 W) := HUb.out.trans' hu (fun y hy => .inr (HIb.out y hy))
        clear hu hv10 v10 ho9 hin9
        obtain ⟨wc, hwc⟩ : ∃ x, x = W := ⟨_, rfl⟩
        subst hwc
        obtain ⟨⟨-, -, -, c3⟩, c4, c5, c6, c7⟩ := Px.cells_at (B1.out.upd HUc.out (by simp))
        go_wp2_with fail
        refine (dtext_any 33 p.reply _).mono ?_
        rintro e wec ⟨rfl, hu5⟩
        have UA : Upd [] wec (wec.alloc (.cells #[.bool true, .bool false, .int .i64 0, .int .i64 (33), .string (p.reply)] 67)) := (Upd.refl _ _).alloc _
        have HOx := Lib.hid ((HOc.out.upd hu5 (by simp)).upd UA (by simp))
        have HRx : Hid (Rd (wec.alloc (.cells #[.bool true, .bool false, .int .i64 0, .int .i64 (33), .string (p.reply)] 67)) 5 (.slice (some ⟨wec.heap.size, 0, none⟩) 1 1) 1 (avCells [(textAv 33 p.reply)])) := avs1 wec (textAv 33 p.reply)
        have HUx := Lib.hid ((HUc.out.trans hu5).trans UA)
        have HIx := Lib.hid HIc.out
        clear hu5 UA
        simp only [Av.agg, textAv, numAv]
        go_wp2_with (first
          | (at_builtin; refine wpList_append_Rd _ rfl (.tmp 76) (.tmp 80) 25 rfl 67 i0 _ 5 40 Tryz.underlying25 hi0 hz0 hz1 hz2 rfl (by decide) _ (q + 1 + 2) _ _ (by simp [Act.eval]) HOx.out _ 1 _ (by simp [Act.eval]) HRx.out (by simp only [maxLen]; omega) (by omega) ?_; intro aoe cape we owne ho1 hin1 hu6; have HOe : Hid (Own we 67 5 (.slice aoe (q + 1 + 2 + 1) cape) (q + 1 + 2 + 1) (avCells ((p.link ++ [numAv 29 p.kind 2]) ++ [textAv 30 p.name, numAv 32 (low8 p.id) 2] ++ [(textAv 33 p.reply)])) owne) := (by show Own _ _ _ _ _ _ _; rw [avCells_append]; exact ho1); have HIe : Hid (∀ y, y ∈ owne → w3.heap.size ≤ y) := (fun y hy => (hin1 y hy).elim (fun h => HIx.out y h) (fun h => Nat.le_trans HUx.out.size h)); have HUe : Hid (Upd [] w3 we) := HUx.out.trans' hu6 (fun y hy => .inr (HIx.out y hy)); clear ho1 hin1 hu6 c3 c4 c5 c6 c7; obtain ⟨⟨-, -, -, c3⟩, c4, c5, c6, c7⟩ := Px.cells_at (B1.out.upd HUe.out (by simp))))
        clear HOx HRx HUx HIx
        have HLE : Hid (((p.link ++ [numAv 29 p.kind 2]) ++ [textAv 30 p.name, numAv 32 (low8 p.id) 2]) ++ [(textAv 33 p.reply)] = p.all) := by show _ = _; simp [Px.all, Px.auth, T3.out]
        have HNE : Hid (q + 1 + 2 + 1 = p.all.length) := by show _ = _; rw [← HLE.out]; have := HKE.out; simp [Px.link]; omega
        have HOE : Hid (Own we 67 5 (.slice aoe (q + 1 + 2 + 1) cape) p.all.length (avCells p.all) owne) := by
          show Own _ _ _ _ _ _ _
          have h := HOe.out
          rw [HLE.out] at h
          rw [← HNE.out]
          exact h
        have HAE : Hid (AvsAt we (.slice aoe (q + 1 + 2 + 1) cape) p.all) := AvsAt.of_own HOE.out
        have HUW := Lib.hid (U3.out.trans HUe.out)
        have hszw := U3.out.size
        cases tb : p.all.any bigAv with
        | true =>
          have HBE : Hid (B = []) := by show _ = _; rw [HB.out, HPB.out, HLB.out, tb]; rfl
          have TB := Lib.hid tb
          clear tb
          refine (containsAv0_any 29 bigAv p.all _ _ HAE.out (fun _ _ => by kernel_rfl) (fun t _ W _ => build1_any t W)).mono ?_
          rintro e wf ⟨rfl, huf⟩
          rw [TB.out]
          go_wp2_with fail
          go_ret
          rw [HBE.out]
          exact ⟨_, rfl, OutAt.nil _ _, HUW.out.trans huf⟩
        | false =>
          have HBE : Hid (B = p.all) := by show _ = _; rw [HB.out, HPB.out, HLB.out, tb]; rfl
          have TB := Lib.hid tb
          clear tb
          refine (containsAv0_any 29 bigAv p.all _ _ HAE.out (fun _ _ => by kernel_rfl) (fun t _ W _ => build1_any t W)).mono ?_
          rintro e wf ⟨rfl, huf⟩
          rw [TB.out]
          go_wp2_with fail
          go_ret
          rw [HBE.out]
          exact ⟨_, rfl, ⟨_, HOE.out.upd huf (by simp), fun y hy => Nat.le_trans hszw (HIe.out y hy)⟩, HUW.out.trans huf⟩
      · have q2 : (p.kind == 2) = false := by simpa using t2
        have q3 : (p.kind == 3) = false := by simpa using t3
        have T2 := Lib.hid t2
        have T3 := Lib.hid t3
        clear t2 t3
        go_wp2_with fail
        refine (num_ok 29 p.kind 2 (by omega) _).mono ?_
        rintro e wbc ⟨rfl, hu5⟩
        have UA : Upd [] wbc (wbc.alloc (.cells #[.bool true, .bool false, .int .i64 0, .int .i64 (29), .string (be 2 p.kind)] 67)) := (Upd.refl _ _).alloc _
        have HOx := Lib.hid ((HOa.out.upd hu5 (by simp)).upd UA (by simp))
        have HRx : Hid (Rd (wbc.alloc (.cells #[.bool true, .bool false, .int .i64 0, .int .i64 (29), .string (be 2 p.kind)] 67)) 5 (.slice (some ⟨wbc.heap.size, 0, none⟩) 1 1) 1 (avCells [(numAv 29 p.kind 2)])) := avs1 wbc (numAv 29 p.kind 2)
        have HUx := Lib.hid ((HUa.out.trans hu5).trans UA)
        have HIx := Lib.hid HIa.out
        clear hu5 UA
        simp only [Av.agg, textAv, numAv]
        go_wp2_with (first
          | (at_builtin; refine wpList_append_Rd _ rfl (.tmp 43) (.tmp 47) 25 rfl 67 i0 _ 5 40 Tryz.underlying25 hi0 hz0 hz1 hz2 rfl (by decide) _ (q) _ _ (by simp [Act.eval]) HOx.out _ 1 _ (by simp [Act.eval]) HRx.out (by simp only [maxLen]; omega) (by omega) ?_; intro aob capb wb ownb ho1 hin1 hu6; have HOb : Hid (Own wb 67 5 (.slice aob (q + 1) capb) (q + 1) (avCells (p.link ++ [(numAv 29 p.kind 2)])) ownb) := (by show Own _ _ _ _ _ _ _; rw [avCells_append]; exact ho1); have HIb : Hid (∀ y, y ∈ ownb → w3.heap.size ≤ y) := (fun y hy => (hin1 y hy).elim (fun h => HIx.out y h) (fun h => Nat.le_trans HUx.out.size h)); have HUb : Hid (Upd [] w3 wb) := HUx.out.trans' hu6 (fun y hy => .inr (HIx.out y hy)); clear ho1 hin1 hu6 c3 c4 c5 c6 c7; obtain ⟨⟨-, -, -, c3⟩, c4, c5, c6, c7⟩ := Px.cells_at (B1.out.upd HUb.out (by simp))))
        clear HOx HRx HUx HIx
        have HLE : Hid (p.link ++ [numAv 29 p.kind 2] = p.all) := by show _ = _; simp [Px.all, Px.auth, T0.out, T2.out, T3.out]
        have HNE : Hid (q + 1 = p.all.length) := by show _ = _; rw [← HLE.out]; have := HKE.out; simp [Px.link]; omega
        have HOE : Hid (Own wb 67 5 (.slice aob (q + 1) capb) p.all.length (avCells p.all) ownb) := by
          show Own _ _ _ _ _ _ _
          have h := HOb.out
          rw [HLE.out] at h
          rw [← HNE.out]
          exact h
        have HAE : Hid (AvsAt wb (.slice aob (q + 1) capb) p.all) := AvsAt.of_own HOE.out
        have HUW := Lib.hid (U3.out.trans HUb.out)
        have hszw := U3.out.size
        cases tb : p.all.any bigAv with
        | true =>
          have HBE : Hid (B = []) := by show _ = _; rw [HB.out, HPB.out, HLB.out, tb]; rfl
          have TB := Lib.hid tb
          clear tb
          refine (containsAv0_any 29 bigAv p.all _ _ HAE.out (fun _ _ => by kernel_rfl) (fun t _ W _ => build1_any t W)).mono ?_
          rintro e wf ⟨rfl, huf⟩
          rw [TB.out]
          go_wp2_with fail
          go_ret
          rw [HBE.out]
          exact ⟨_, rfl, OutAt.nil _ _, HUW.out.trans huf⟩
        | false =>
          have HBE : Hid (B = p.all) := by show _ = _; rw [HB.out, HPB.out, HLB.out, tb]; rfl
          have TB := Lib.hid tb
          clear tb
          refine (containsAv0_any 29 bigAv p.all _ _ HAE.out (fun _ _ => by kernel_rfl) (fun t _ W _ => build1_any t W)).mono ?_
          rintro e wf ⟨rfl, huf⟩
          rw [TB.out]
          go_wp2_with fail
          go_ret
          rw [HBE.out]
          exact ⟨_, rfl, ⟨_, HOE.out.upd huf (by simp), fun y hy => Nat.le_trans hszw (HIb.out y hy)⟩, HUW.out.trans huf⟩
end Go.Proofs.YtljiichcmljbgaaGreat
