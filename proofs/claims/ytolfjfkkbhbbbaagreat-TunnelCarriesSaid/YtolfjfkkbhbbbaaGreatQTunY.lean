/- Two ends side by side: the walks of chapter 21's config, pair, meet. The walks of chapter 21's pair, meet. -/
import Derived.Test.YtolfjfkkbhbbbaaGreatQTunV
import Derived.Test.YtolfjfkkbhbbbaaGreatQTunU
namespace Go.Proofs.YtolfjfkkbhbbbaaGreat
open Go.RowKit
set_option linter.unusedSimpArgs false
set_option linter.unusedVariables false
set_option maxRecDepth 100000

set_option maxHeartbeats 1000000 in
theorem config_any (name secret : ByteArray) (id : Int) (w : World) :
    Calls Tryz.prog 18 #[.string name, .string secret, .int .i64 id] w fun e w' => e = .returned (.agg #[.string name, .string secret, .int .i64 id, .int .i64 4, .int .i64 10, .int .i64 3, .int .i64 3, .int .i64 20]) ∧ Upd [] w w' := by
  go_enter Tryz.func18, Tryz.ntmps18
  go_wp2_with fail
  have RR := Blk.new w 37 #[.string name, .string secret, .int .i64 id, .int .i64 4, .int .i64 10, .int .i64 3, .int .i64 3, .int .i64 20]
  have q0 := RR.cell 0
  have q1 := RR.cell 1
  have q2 := RR.cell 2
  have q3 := RR.cell 3
  have q4 := RR.cell 4
  have q5 := RR.cell 5
  have q6 := RR.cell 6
  have q7 := RR.cell 7
  simp at q0 q1 q2 q3 q4 q5 q6 q7
  exact bodyPost_ret (v := .agg #[.string name, .string secret, .int .i64 id, .int .i64 4, .int .i64 10, .int .i64 3, .int .i64 3, .int .i64 20]) (by simp [results, Tryz.results18, go_sem, q0, q1, q2, q3, q4, q5, q6, q7]) rfl ⟨rfl, (Upd.refl [] w).alloc _⟩

/-- Two ends lie apart from one another, in blocks that were not there in the world w; what was there has not moved. -/
structure Two (w W : World) (pa pb : Nat) (a b : Tn) : Prop where
  ex : ∃ oa ob, TunAt W pa a oa ∧ TunAt W pb b ob ∧ (∀ k ∈ oa, k ∉ ob) ∧ (∀ k ∈ oa, w.heap.size ≤ k) ∧ (∀ k ∈ ob, w.heap.size ≤ k)
  u : Upd [] w W
/-- .. and a list of texts apart from both. -/
structure TwoL (w W : World) (pa pb : Nat) (a b : Tn) (v : Value) (l : List ByteArray) : Prop where
  ex : ∃ oa ob ol, TunAt W pa a oa ∧ TunAt W pb b ob ∧ (∀ k ∈ oa, k ∉ ob) ∧ (∀ k ∈ oa, w.heap.size ≤ k) ∧ (∀ k ∈ ob, w.heap.size ≤ k) ∧
    Own W 9 1 v l.length (strs l) ol ∧ (∀ k ∈ ol, k ∉ oa) ∧ (∀ k ∈ ol, k ∉ ob)
  u : Upd [] w W
section
variable {w W W' : World} {pa pb : Nat} {a b a' b' : Tn} {v u : Value} {l : List ByteArray} {f : Nat} {args : Array Value}
theorem Two.swap (h : Two w W pa pb a b) : Two w W pb pa b a := by
  obtain ⟨⟨oa, ob, h1, h2, h3, h4, h5⟩, hu⟩ := h
  exact ⟨⟨ob, oa, h2, h1, fun k hk hk2 => h3 k hk2 hk, h5, h4⟩, hu⟩
theorem TwoL.swap (h : TwoL w W pa pb a b v l) : TwoL w W pb pa b a v l := by
  obtain ⟨⟨oa, ob, ol, h1, h2, h3, h4, h5, h6, h7, h8⟩, hu⟩ := h
  exact ⟨⟨ob, oa, ol, h2, h1, fun k hk hk2 => h3 k hk2 hk, h5, h4, h6, h8, h7⟩, hu⟩
theorem TwoL.two (h : TwoL w W pa pb a b v l) : Two w W pa pb a b := by
  obtain ⟨⟨oa, ob, ol, h1, h2, h3, h4, h5, h6, h7, h8⟩, hu⟩ := h
  exact ⟨⟨oa, ob, h1, h2, h3, h4, h5⟩, hu⟩
theorem Two.keep (h : Two w W pa pb a b) (k : Upd [] W W') : Two w W' pa pb a b := by
  obtain ⟨⟨oa, ob, h1, h2, h3, h4, h5⟩, hu⟩ := h
  exact ⟨⟨oa, ob, h1.keep k, h2.keep k, h3, h4, h5⟩, hu.trans k⟩
theorem Two.atA (h : Two w W pa pb a b) : ∃ oa, TunAt W pa a oa := by
  obtain ⟨⟨oa, ob, h1, -⟩, -⟩ := h
  exact ⟨oa, h1⟩
theorem Two.nextA {oa ob oa' : List Nat} (h1 : TunAt W pa a oa) (h2 : TunAt W pb b ob) (h3 : ∀ k ∈ oa, k ∉ ob) (h4 : ∀ k ∈ oa, w.heap.size ≤ k) (h5 : ∀ k ∈ ob, w.heap.size ≤ k) (hu : Upd [] w W)
    (k1 : TunAt W' pa a' oa') (k2 : Grew W oa oa') (k3 : Upd oa W W') :
    TunAt W' pb b ob ∧ (∀ k ∈ oa', k ∉ ob) ∧ (∀ k ∈ oa', w.heap.size ≤ k) ∧ Upd [] w W' := by
  refine ⟨h2.upd k3 (fun k hk hk2 => h3 k hk2 hk), fun k hk hk2 => ?_, fun k hk => ?_, hu.trans' k3 (fun x hx => .inr (h4 x hx))⟩
  · rcases k2 k hk with h | h
    · exact h3 k h hk2
    · have := h2.lt k hk2; omega
  · rcases k2 k hk with h | h
    · exact h4 k h
    · exact Nat.le_trans hu.size h
/-- A step of the first end. -/
theorem Two.stepA (h : Two w W pa pb a b) (hc : ∀ own, TunAt W pa a own → Calls Tryz.prog f args W (TunEnd W pa own a' u)) : Calls Tryz.prog f args W fun e w' => e = .returned u ∧ Two w w' pa pb a' b := by
  obtain ⟨⟨oa, ob, h1, h2, h3, h4, h5⟩, hu⟩ := h
  refine (hc oa h1).mono ?_
  rintro e w' ⟨rfl, ⟨oa', k1, k2⟩, k3⟩
  obtain ⟨z1, z2, z3, z4⟩ := Two.nextA h1 h2 h3 h4 h5 hu k1 k2 k3
  exact ⟨rfl, ⟨oa', ob, k1, z1, z2, z3, h5⟩, z4⟩
theorem Two.stepB (h : Two w W pa pb a b) (hc : ∀ own, TunAt W pb b own → Calls Tryz.prog f args W (TunEnd W pb own b' u)) : Calls Tryz.prog f args W fun e w' => e = .returned u ∧ Two w w' pa pb a b' :=
  (h.swap.stepA hc).mono fun e w' k => ⟨k.1, k.2.swap⟩
/-- The first end says what is to be sent. -/
theorem Two.outA (h : Two w W pa pb a b) {N : Nat} (hg : a.Good N) :
    Calls Tryz.prog 20 #[.pointer (some ⟨pa, 0, none⟩)] W fun e w' => ∃ v, e = .returned v ∧ TwoL w w' pa pb a.out.1 b v a.out.2 := by
  obtain ⟨⟨oa, ob, h1, h2, h3, h4, h5⟩, hu⟩ := h
  refine (tout_any h1 hg.id hg.waits hg.flies).mono ?_
  rintro e w' ⟨⟨v, ol, oa', rfl, ho, hn, hd, k1, k2⟩, k3⟩
  obtain ⟨z1, z2, z3, z4⟩ := Two.nextA h1 h2 h3 h4 h5 hu k1 k2 k3
  exact ⟨v, rfl, ⟨oa', ob, ol, k1, z1, z2, z3, h5, ho, hd, fun k hk hk2 => by have := hn k hk; have := h2.lt k hk2; omega⟩, z4⟩
theorem TunAt.ok (h : ∃ own, TunAt W pa a own) : a.way.ok := by
  obtain ⟨own, bd, od, bw, ow, -, -, ⟨ok, -⟩, -⟩ := h
  exact ok
theorem Two.outLen (h : Two w W pa pb a b) : a.out.2.length ≤ 42 := by
  have hok := TunAt.ok h.atA
  unfold Tn.out
  split
  · simp
  · simp only [List.length_map]
    exact (C.out_items hok).2
/-- The second end takes bytes, with the list beside. -/
theorem TwoL.takeB (h : TwoL w W pa pb a b v l) (s : ByteArray) (hs : s.size ≤ 400000) {N : Nat} (hg : b.Good N) :
    Calls Tryz.prog 21 #[.pointer (some ⟨pb, 0, none⟩), .string s] W fun e w' => (∃ u, e = .returned u) ∧ TwoL w w' pa pb a (b.take s).1 v l := by
  obtain ⟨⟨oa, ob, ol, h1, h2, h3, h4, h5, h6, h7, h8⟩, hu⟩ := h
  refine (ttake_any h2 s hs hg.secret hg.asked (by have := hg.asks; omega) hg.nw).mono ?_
  rintro e w' ⟨⟨u, ob', rfl, k1, k2, -⟩, k3⟩
  obtain ⟨z1, z2, z3, z4⟩ := Two.nextA h2 h1 (fun k hk hk2 => h3 k hk2 hk) h5 h4 hu k1 k2 k3
  refine ⟨⟨u, rfl⟩, ⟨oa, ob', ol, z1, k1, fun k hk hk2 => z2 k hk2 hk, h4, z3, h6.upd k3 h8, h7, fun k hk hk2 => ?_⟩, z4⟩
  rcases k2 k hk2 with h | h
  · exact h8 k hk h
  · have := h6.lt k hk; omega
theorem TwoL.shape (h : TwoL w W pa pb a b v l) : ∃ ao cap, v = .slice ao l.length cap := by
  obtain ⟨⟨oa, ob, ol, h1, h2, h3, h4, h5, h6, h7, h8⟩, hu⟩ := h
  obtain ⟨ao, cap, rfl, -, -⟩ := h6.shape
  exact ⟨ao, cap, rfl⟩
theorem TwoL.text (h : TwoL w W pa pb a b v l) (k : Nat) {s : ByteArray} (hk : l[k]? = some s) : ∃ g off cap, v = .slice (some ⟨g, off, none⟩) l.length cap ∧ l.length ≤ cap ∧ W.cell? ⟨g, off + k, none⟩ = some (.string s) := by
  obtain ⟨⟨oa, ob, ol, h1, h2, h3, h4, h5, h6, h7, h8⟩, hu⟩ := h
  have hl : 0 < l.length := by
    rcases Nat.eq_zero_or_pos l.length with h0 | h0
    · rw [List.eq_nil_of_length_eq_zero h0] at hk; simp at hk
    · exact h0
  obtain ⟨g, off, cap, e1, e2, e3, e4, e5⟩ := h6.form hl
  exact ⟨g, off, cap, e1, e3, e5 k _ (by rw [strs_get, hk]; rfl)⟩
end
/-- What an end says is no longer than bytes may be. -/
theorem sayM_size (id : Int) (i : Item) (h : i.body.size = 0 ∨ (2 ≤ i.body.size ∧ i.body.size ≤ 1500)) : (sayM id i).size ≤ 1600 := by
  unfold sayM
  split
  · rw [rawOf, ByteArray.size_append, ByteArray.size_append, wordsOf_size, strOfNums_size]
    show 2 + (0 + 2 * 5) + 0 ≤ _
    omega
  · rw [rawOf, ByteArray.size_append, ByteArray.size_append, wordsOf_size, strOfNums_size, ByteArray.size_extract]
    show 2 + (0 + 2 * 5) + _ ≤ _
    omega
theorem Tn.out_size {t : Tn} {N : Nat} (hg : t.Good N) (ok : t.way.ok) : ∀ s ∈ t.out.2, s.size ≤ 1600 := by
  unfold Tn.out
  split
  · simp
  · intro s hs
    simp only [List.mem_map] at hs
    obtain ⟨i, hi, rfl⟩ := hs
    obtain ⟨-, -, h⟩ := (C.out_items ok).1 i hi
    refine sayM_size _ _ ?_
    rcases h with h | h | h
    · exact .inl h
    · exact .inr (hg.waits _ h)
    · exact .inr (hg.flies _ h)

/-! ### the meeting, plain -/
def feed (t : Tn) (l : List ByteArray) : Tn := l.foldl (fun t b => (t.take b).1) t
theorem feed_snoc (t : Tn) (l : List ByteArray) (s : ByteArray) : feed t (l ++ [s]) = ((feed t l).take s).1 := by simp [feed]
def meet1 (p : Tn × Tn) : Tn × Tn := (feed p.1.out.1 (feed p.2 p.1.out.2).out.2, (feed p.2 p.1.out.2).out.1)
def meetN : Nat → Tn × Tn → Tn × Tn
  | 0, p => p
  | n + 1, p => meet1 (meetN n p)
end Go.Proofs.YtolfjfkkbhbbbaaGreat
namespace Go.Proofs.YtolfjfkkbhbbbaaGreat
open Go.RowKit
set_option linter.unusedSimpArgs false
set_option linter.unusedVariables false
set_option maxRecDepth 100000

structure Met (w W : World) (pa pb : Nat) (p : Tn × Tn) (N : Nat) : Prop where
  two : Two w W pa pb p.1 p.2
  ga : p.1.Good N
  gb : p.2.Good N
structure MetEnd (w : World) (pa pb : Nat) (p : Tn × Tn) (N : Nat) (e : Ending) (w' : World) : Prop where
  e : e = .returned (.tuple #[])
  met : Met w w' pa pb p N
theorem Tn.Good.ofEq {N M : Nat} {t : Tn} (h : t.Good N) (e : M = N) : t.Good M := e ▸ h

set_option maxHeartbeats 2000000 in
theorem meet_any (n : Nat) (hn : n ≤ 1000) {w W : World} {pa pb : Nat} {p : Tn × Tn} {N : Nat} (h : Met w W pa pb p (N + 42 * n)) :
    Calls Tryz.prog 13 #[.pointer (some ⟨pa, 0, none⟩), .pointer (some ⟨pb, 0, none⟩), .int .i64 n] W (MetEnd w pa pb (meetN n p) N) := by
  have H := Lib.hid h
  clear h
  go_enter Tryz.func13, Tryz.ntmps13
  go_wp2_with fail
  go_loopg [6] n (fun m s6 wr => ∃ (i : Nat), i + m = n ∧ s6 = .int .i64 i ∧ Met w wr pa pb (meetN i p) (N + 42 * (n - i)))
  case atStart => exact ⟨0, by omega, rfl, H.out⟩
  case round =>
    obtain ⟨i, hi, rfl, hm⟩ := hrel
    have HM := Lib.hid hm
    clear hm H
    by_cases tt : i < n
    · have HQ : Hid (meetN (i + 1) p = meet1 (meetN i p)) := rfl
      have HM' : Hid (Met w wr pa pb (meetN i p) (N + 42 * (n - (i + 1)) + 42)) := by
        have := HM.out
        rw [show n - i = n - (i + 1) + 1 by omega] at this
        exact ⟨this.two, this.ga.ofEq (by omega), this.gb.ofEq (by omega)⟩
      generalize meetN i p = q at *
      obtain ⟨a, b⟩ := q
      have HQ' : Hid (meetN (i + 1) p = (feed a.out.1 (feed b a.out.2).out.2, (feed b a.out.2).out.1)) := HQ.out
      have HOA := Lib.hid (HM'.out.two.outA HM'.out.ga)
      have hlen := HM'.out.two.outLen
      have HSZ := Lib.hid (Tn.out_size HM'.out.ga (TunAt.ok HM'.out.two.atA))
      have HGA := Lib.hid HM'.out.ga.out
      dsimp only at HOA hlen HSZ HGA
      generalize a.out.2 = x at *
      generalize a.out.1 = a1 at *
      clear HM HQ
      go_wp2_with fail
      refine HOA.out.mono ?_
      rintro e w1 ⟨v, rfl, h1⟩
      obtain ⟨ao, cap, rfl⟩ := h1.shape
      have H1 := Lib.hid h1
      obtain ⟨nx, hnx⟩ : ∃ nx, x.length = nx := ⟨_, rfl⟩
      have HNX := Lib.hid hnx
      rw [hnx] at hlen H1
      rw [hnx]
      clear h1 hnx HOA
      go_wp2_with fail
      go_loopg [8] nx (fun m8 s8 wr8 => ∃ (k : Nat), k + m8 = nx ∧ s8 = .int .i64 k ∧ TwoL w wr8 pa pb a1 (feed b (x.take k)) (.slice ao nx cap) x ∧ (feed b (x.take k)).Good (N + 42 * (n - (i + 1)) + (nx - k)))
      case atStart => exact ⟨0, by omega, rfl, by simpa [feed] using H1.out, by simpa [feed] using HM'.out.gb.less (by omega)⟩
      case round =>
        obtain ⟨k, hk, rfl, hk1, hk2⟩ := hrel
        by_cases t8 : k < nx
        · obtain ⟨s, hs⟩ : ∃ s, x[k]? = some s := ⟨_, List.getElem?_eq_getElem (by have := HNX.out; omega)⟩
          obtain ⟨g, off, cap', hv, hle, hc⟩ := hk1.text k hs
          injection hv with hv1 hv2 hv3
          subst hv1 hv3
          have hsz := HSZ.out s (List.mem_of_getElem? hs)
          have HT := Lib.hid (hk1.takeB s (by omega) hk2)
          have HG : Hid (((feed b (x.take k)).take s).1.Good (N + 42 * (n - (i + 1)) + (nx - (k + 1)))) := (hk2.ofEq (by omega)).take s
          have HF : Hid (feed b (x.take (k + 1)) = ((feed b (x.take k)).take s).1) := by show _ = _; rw [← feed_snoc, List.take_add_one, hs]; rfl
          have hle : nx ≤ cap := by have := HNX.out; omega
          clear hk1 hk2 hv2 hs hsz
          generalize ((feed b (x.take k)).take s).1 = b2 at *
          go_wp2_with fail
          refine HT.out.mono ?_
          rintro e w2 ⟨⟨u, rfl⟩, h2⟩
          have H2 := Lib.hid h2
          clear h2 HT
          go_wp2_with fail
          go_roundg (nx - (k + 1))
          case rel => exact ⟨k + 1, by omega, by go_num, by rw [HF.out]; exact H2.out, by rw [HF.out]; exact HG.out⟩
          case measure => omega
        · obtain rfl : k = nx := by omega
          have htk : x.take k = x := List.take_of_length_le (Nat.le_of_eq HNX.out)
          rw [htk] at hk1 hk2
          have HOB := Lib.hid (hk1.two.swap.outA hk2)
          have hlen2 := hk1.two.swap.outLen
          have HSZ2 := Lib.hid (Tn.out_size hk2 (TunAt.ok hk1.two.swap.atA))
          have HGB : Hid ((feed b x).out.1.Good (N + 42 * (n - (i + 1)))) := hk2.out.less (by omega)
          generalize feed b x = b1 at *
          generalize b1.out.2 = y at *
          generalize b1.out.1 = b2 at *
          clear hk1 hk2 htk H1
          go_wp2_with fail
          refine HOB.out.mono ?_
          rintro e w3 ⟨v, rfl, h1⟩
          obtain ⟨ao2, cap2, rfl⟩ := h1.shape
          have H1 := Lib.hid h1
          obtain ⟨ny, hny⟩ : ∃ ny, y.length = ny := ⟨_, rfl⟩
          have HNY := Lib.hid hny
          rw [hny] at hlen2 H1
          rw [hny]
          clear h1 hny HOB
          go_wp2_with fail
          go_loopg [10] ny (fun m10 s10 wr10 => ∃ (k : Nat), k + m10 = ny ∧ s10 = .int .i64 k ∧ TwoL w wr10 pb pa b2 (feed a1 (y.take k)) (.slice ao2 ny cap2) y ∧ (feed a1 (y.take k)).Good (N + 42 * (n - (i + 1)) + (ny - k)))
          case atStart => exact ⟨0, by omega, rfl, by simpa [feed] using H1.out, by simpa [feed] using HGA.out.less (by omega)⟩
          case round =>
            obtain ⟨j, hj, rfl, hk1, hk2⟩ := hrel
            by_cases t10 : j < ny
            · obtain ⟨s, hs⟩ : ∃ s, y[j]? = some s := ⟨_, List.getElem?_eq_getElem (by have := HNY.out; omega)⟩
              obtain ⟨g, off, cap', hv, hle, hc⟩ := hk1.text j hs
              injection hv with hv1 hv2 hv3
              subst hv1 hv3
              have hsz := HSZ2.out s (List.mem_of_getElem? hs)
              have HT := Lib.hid (hk1.takeB s (by omega) hk2)
              have HG : Hid (((feed a1 (y.take j)).take s).1.Good (N + 42 * (n - (i + 1)) + (ny - (j + 1)))) := (hk2.ofEq (by omega)).take s
              have HF : Hid (feed a1 (y.take (j + 1)) = ((feed a1 (y.take j)).take s).1) := by show _ = _; rw [← feed_snoc, List.take_add_one, hs]; rfl
              have hle : ny ≤ cap2 := by have := HNY.out; omega
              clear hk1 hk2 hv2 hs hsz
              generalize ((feed a1 (y.take j)).take s).1 = a2 at *
              go_wp2_with fail
              refine HT.out.mono ?_
              rintro e w4 ⟨⟨u, rfl⟩, h2⟩
              have H2 := Lib.hid h2
              clear h2 HT
              go_wp2_with fail
              go_roundg (ny - (j + 1))
              case rel => exact ⟨j + 1, by omega, by go_num, by rw [HF.out]; exact H2.out, by rw [HF.out]; exact HG.out⟩
              case measure => omega
            · obtain rfl : j = ny := by omega
              have htk : y.take j = y := List.take_of_length_le (Nat.le_of_eq HNY.out)
              rw [htk] at hk1 hk2
              have HK := Lib.hid (And.intro hk1 hk2)
              clear hk1 hk2 htk
              go_wp2_with fail
              go_roundg (n - (i + 1))
              case rel => exact ⟨i + 1, by omega, by go_num, by rw [HQ'.out]; exact ⟨HK.out.1.two.swap, HK.out.2.less (by omega), HGB.out⟩⟩
              case measure => omega
    · obtain rfl : i = n := by omega
      go_wp2_with fail
      have k : Met w wr pa pb (meetN i p) N := ⟨HM.out.two, HM.out.ga.less (by omega), HM.out.gb.less (by omega)⟩
      exact bodyPost_ret (results_none rfl _ _ _) rfl ⟨rfl, k⟩

def endA (s : ByteArray) : Tn := Tn.new ⟨#[97]⟩ s 5 4 10 3 3 20 ⟨[1, 2, 3], 0⟩
def endB (s : ByteArray) : Tn := Tn.new ⟨#[98]⟩ s 9 4 10 3 3 20 ⟨[4, 5], 0⟩
theorem law_ok : NewOk 4 10 3 3 0 := by constructor <;> decide
theorem endA_good (s : ByteArray) (hs : s.size ≤ 60) : (endA s).Good 30000 := Tn.new_good _ _ _ _ _ _ _ _ _ hs (by decide) (by decide) law_ok rfl (Nat.le_refl _)
theorem endB_good (s : ByteArray) (hs : s.size ≤ 60) : (endB s).Good 30000 := Tn.new_good _ _ _ _ _ _ _ _ _ hs (by decide) (by decide) law_ok rfl (Nat.le_refl _)
structure PairEnd (w : World) (s t : ByteArray) (e : Ending) (w' : World) : Prop where
  ex : ∃ pa pb, e = .returned (.tuple #[.pointer (some ⟨pa, 0, none⟩), .pointer (some ⟨pb, 0, none⟩), .bool true]) ∧ Two w w' pa pb (endA s) (endB t)

set_option maxHeartbeats 2000000 in
theorem pair_any (s t : ByteArray) (hs : s.size ≤ 60) (ht : t.size ≤ 60) (w : World) :
    Calls Tryz.prog 11 #[.string s, .string t] w (PairEnd w s t) := by
  have HS := Lib.hid hs
  have HT := Lib.hid ht
  clear hs ht
  go_enter Tryz.func11, Tryz.ntmps11
  go_wp2_with fail
  refine (config_any ⟨#[97]⟩ s 5 _).mono ?_
  rintro e w1 ⟨rfl, u1⟩
  go_wp2_with fail
  have hi := IntsAt.of_blk (l := [1, 2, 3]) (Blk.new w1 3 #[.int .i64 1, .int .i64 2, .int .i64 3]) (by simp [maxLen])
  refine (tapeNew_any [1, 2, 3] _ _ hi (by simp) (by intro x hx; simp at hx; omega)).mono ?_
  rintro e w2 ⟨⟨bd, od, rfl, hd, hn⟩, u2⟩
  have U2 := Lib.hid ((u1.alloc _).trans u2)
  have HU1 := Lib.hid u1
  have HD := Lib.hid hd
  have HN := Lib.hid hn
  clear u1 u2 hi hd hn
  go_wp2_with fail
  refine (tnew_any ⟨#[97]⟩ s 5 4 10 3 3 20 (by decide) (by decide) HS.out (by omega) (by omega) (by omega) (by omega) law_ok HD.out).mono ?_
  rintro e w3 ⟨⟨pa, oa, rfl, ha, hg⟩, u3⟩
  have HA := Lib.hid ha
  have HAN : Hid (∀ k ∈ oa, w.heap.size ≤ k) := fun k hk => by
    rcases hg k hk with h | h
    · have h1 := HN.out k h; have h2 := HU1.out.size; simp at h1; omega
    · exact Nat.le_trans U2.out.size h
  have U3 := Lib.hid (U2.out.trans u3)
  clear ha hg u3 HN HD
  go_wp2_with fail
  refine (config_any ⟨#[98]⟩ t 9 _).mono ?_
  rintro e w4 ⟨rfl, u4⟩
  have HU4 := Lib.hid u4
  go_wp2_with fail
  have hi := IntsAt.of_blk (l := [4, 5]) (Blk.new w4 3 #[.int .i64 4, .int .i64 5]) (by simp [maxLen])
  refine (tapeNew_any [4, 5] _ _ hi (by simp) (by intro x hx; simp at hx; omega)).mono ?_
  rintro e w5 ⟨⟨bd, od, rfl, hd, hn⟩, u5⟩
  have HD := Lib.hid hd
  have HN := Lib.hid hn
  have U5 := Lib.hid ((u4.alloc _).trans u5)
  clear u4 u5 hi hd hn
  go_wp2_with fail
  refine (tnew_any ⟨#[98]⟩ t 9 4 10 3 3 20 (by decide) (by decide) HT.out (by omega) (by omega) (by omega) (by omega) law_ok HD.out).mono ?_
  rintro e w6 ⟨⟨pb, ob, rfl, hb, hg⟩, u6⟩
  have HB := Lib.hid hb
  have HBN : Hid (∀ k ∈ ob, w3.heap.size ≤ k) := fun k hk => by
    rcases hg k hk with h | h
    · have h1 := HN.out k h; have h2 := HU4.out.size; simp at h1; omega
    · exact Nat.le_trans U5.out.size h
  have U6 := Lib.hid (U5.out.trans u6)
  clear hb hg u6 HN HD
  go_wp2_with fail
  go_ret3
  refine ⟨pa, pb, rfl, ⟨oa, ob, HA.out.keep U6.out, HB.out, fun k hk hk2 => ?_, HAN.out, fun k hk => Nat.le_trans U3.out.size (HBN.out k hk)⟩, U3.out.trans U6.out⟩
  have h1 := HA.out.lt k hk
  have h2 := HBN.out k hk2
  omega
end Go.Proofs.YtolfjfkkbhbbbaaGreat
