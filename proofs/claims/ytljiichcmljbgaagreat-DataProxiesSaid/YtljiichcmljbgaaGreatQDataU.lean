/- The walk of data.Parse. -/
import Derived.Test.YtljiichcmljbgaaGreatQDataS
namespace Go.Proofs.YtljiichcmljbgaaGreat
open Go.RowKit
set_option linter.unusedSimpArgs false
set_option linter.unusedVariables false
set_option maxRecDepth 100000

theorem claimed_nil (l : List Av) : (claimed l).1.first = [] ∧ (claimed l).1.tx = [] ∧ (claimed l).1.rx = [] := by
  unfold claimed
  split
  · exact ⟨rfl, rfl, rfl⟩
  · split <;> exact ⟨rfl, rfl, rfl⟩
theorem RdrAt.rebase {v0 w0 w : World} {b g : Nat} {vl : Value} {l : List Av} {ok : Bool} (h : RdrAt w0 w b g vl l ok) (h' : AvsAt v0 vl l) (hu : Upd [] v0 w0) : RdrAt v0 w b g vl l ok :=
  ⟨h.blk, h.ne, ⟨Nat.le_trans hu.size h.low.1, Nat.le_trans hu.size h.low.2⟩, h.cnt, h', hu.trans (h.upd)⟩
def claimPx (l : List Av) : Px := if (claimed l).2 = true then (claimed l).1 else Px.zero
theorem claimPx_nil (l : List Av) : (claimPx l).first = [] ∧ (claimPx l).tx = [] ∧ (claimPx l).rx = [] := by
  unfold claimPx
  split
  · exact claimed_nil l
  · exact ⟨rfl, rfl, rfl⟩
theorem parsed_eq (l : List Av) : parsed l = if linked l = true then { claimPx l with first := osAv l 26, tx := osAv l 27, rx := osAv l 28 } else claimPx l := rfl
/-- The call gives a proxy, whose lists are its own, and two marks. -/
structure GivesPx (x : Px) (lk cl : Bool) (w : World) (e : Ending) (w' : World) : Prop where
  out : ∃ f t r o1 o2 o3, e = .returned (.tuple #[x.val f t r, .bool lk, .bool cl]) ∧ Own w' 131 2 f x.first.length (tgCells x.first) o1 ∧ Own w' 131 2 t x.tx.length (tgCells x.tx) o2 ∧ Own w' 131 2 r x.rx.length (tgCells x.rx) o3 ∧
    (∀ k, k ∈ o1 → w.heap.size ≤ k) ∧ (∀ k, k ∈ o2 → w.heap.size ≤ k) ∧ (∀ k, k ∈ o3 → w.heap.size ≤ k) ∧ (lk = false → f = .slice none 0 0 ∧ t = .slice none 0 0 ∧ r = .slice none 0 0) ∧ (∀ k, k ∈ o1 → k ∉ o2) ∧ (∀ k, k ∈ o1 → k ∉ o3) ∧ (∀ k, k ∈ o2 → k ∉ o3)
  upd : Upd [] w w'

set_option maxHeartbeats 4000000 in
theorem parse_any (l : List Av) (v : Value) (w : World) (hl : AvsAt w v l) (hs : ∀ t ∈ l, t.val.size ≤ 140737488355328) :
    Calls Tryz.prog 10 #[v] w (GivesPx (parsed l) (linked l) (claimed l).2 w) := by
  obtain ⟨ao, cap, rfl, h1, h2, h3⟩ := id hl
  obtain ⟨n, hn⟩ : ∃ n, n = l.length := ⟨_, rfl⟩
  rw [← hn] at hl
  simp only [← hn]
  have HS := Lib.hid hs
  obtain ⟨Z, hZ⟩ : ∃ Z, Z = Px.zero.cells (.slice none 0 0) (.slice none 0 0) (.slice none 0 0) := ⟨_, rfl⟩
  have B2 : Hid (Blk ((w.alloc (.cells Z 24)).alloc (.cells Z 24)) w.heap.size 24 Z) := (Blk.new _ _ _).alloc _
  have B5 : Hid (Blk ((w.alloc (.cells Z 24)).alloc (.cells Z 24)) (w.heap.size + 1) 24 Z) := by
    have h := Blk.new (w.alloc (.cells Z 24)) 24 Z
    have hs : (w.alloc (.cells Z 24)).heap.size = w.heap.size + 1 := by simp
    rw [hs] at h
    exact h
  have U0 : Hid (Upd [] w ((w.alloc (.cells Z 24)).alloc (.cells Z 24))) := ((Upd.refl _ _).alloc _).alloc _
  have HZ0 : Hid (Z = #[.slice none 0 0, .slice none 0 0, .slice none 0 0, .int .i64 0, .int .i64 0, .string ⟨#[]⟩, .string ⟨#[]⟩, .string ⟨#[]⟩]) := hZ
  have HL := Lib.hid hl
  clear hl hs hn h1 h2 h3 hZ
  go_enter Tryz.func10, Tryz.ntmps10
  go_wp2_with fail
  rw [← HZ0.out]
  refine (read_any l _ _ (HL.out.upd U0.out)).mono ?_
  rintro e w1 ⟨b1, g1, rfl, hr1, hu1⟩
  have HR1 := Lib.hid hr1
  have B21 := Lib.hid (B2.out.upd hu1 (by simp))
  have B51 := Lib.hid (B5.out.upd hu1 (by simp))
  have HU1 := Lib.hid (U0.out.trans hu1)
  have hlow1 := hr1.low
  have hs0 : ((w.alloc (.cells Z 24)).alloc (.cells Z 24)).heap.size = w.heap.size + 2 := by simp
  rw [hs0] at hlow1
  have hlt1 := hr1.lts
  rw [hs0] at hlt1
  clear hr1 hu1 B2 B5
  generalize (w.alloc (.cells Z 24)).alloc (.cells Z 24) = wz at *
  go_wp2_with fail
  refine (auth_rd HR1.out HS.out).mono ?_
  rintro e w2 ⟨rfl, hr2, hu2⟩
  have HR2 := Lib.hid hr2
  have hlt2 := hr2.lts
  rw [hs0] at hlt2
  have B22 := Lib.hid (B21.out.upd hu2 (by simp; omega))
  have B52 := Lib.hid (B51.out.upd hu2 (by simp; omega))
  have HU2 : Hid (Upd [] w w2) := HU1.out.trans' hu2 (fun x hx => .inr (by simp at hx; omega))
  have hsz2 := hu2.size
  clear hr2 hu2 B21 B51
  obtain ⟨x, hx⟩ : ∃ x, x = (claimed l).1 := ⟨_, rfl⟩
  obtain ⟨okc, hok⟩ : ∃ x, x = (claimed l).2 := ⟨_, rfl⟩
  have HQC : Hid (claimPx l = if okc = true then x else Px.zero) := by show _ = _; rw [claimPx, ← hx, ← hok]
  have HOKC := Lib.hid hok
  rw [← hok] at HR2
  rw [← hx]
  simp only [Px.val]
  have HBC : Hid (Blk w2 b1 90 #[.slice ao n cap, .map (some g1), .bool okc]) := HR2.out.blk
  have hb1s : b1 < w2.heap.size := HR2.out.blk.lt
  clear hx hok
  obtain ⟨r0, r1, r2, r3, r4⟩ := HR2.out.reads
  have HU2A := Lib.hid (HU2.out.alloc (.cells (x.cells (.slice none 0 0) (.slice none 0 0) (.slice none 0 0)) 24))
  have B22A := Lib.hid (B22.out.alloc (.cells (x.cells (.slice none 0 0) (.slice none 0 0) (.slice none 0 0)) 24))
  have B52A := Lib.hid (B52.out.alloc (.cells (x.cells (.slice none 0 0) (.slice none 0 0) (.slice none 0 0)) 24))
  have HBCA := Lib.hid (HBC.out.alloc (.cells (x.cells (.slice none 0 0) (.slice none 0 0) (.slice none 0 0)) 24))
  obtain ⟨f0, f1, f2, f3, f4, f5, f6, f7⟩ := B52.out.froz
  have hc5 := B52.out
  rw [show Z = Px.zero.cells (.slice none 0 0) (.slice none 0 0) (.slice none 0 0) from HZ0.out] at hc5
  obtain ⟨⟨c0, c1, c2, c3⟩, c4, c5, c6, c7⟩ := Px.cells_at hc5
  simp only [Px.zero] at c3 c4 c5 c6 c7
  have hc7 := Blk.new w2 24 (x.cells (.slice none 0 0) (.slice none 0 0) (.slice none 0 0))
  obtain ⟨⟨d0, d1, d2, d3⟩, d4, d5, d6, d7⟩ := Px.cells_at hc7
  have l57 : w.heap.size + 1 < w2.heap.size := B52.out.lt
  have HZE : Hid (Z = Px.zero.cells (.slice none 0 0) (.slice none 0 0) (.slice none 0 0)) := HZ0.out
  clear hc5 hc7
  cases okc
  rotate_left
  focus
    simp only [↓reduceIte] at HQC
    go_wp2_with fail
    clear f0 f1 f2 f3 f4 f5 f6 f7 c0 c1 c2 c3 c4 c5 c6 c7 d0 d1 d2 d3 d4 d5 d6 d7 r0 r1 r2 r3 r4
    have b5 := (setPx_blk (HZE.out ▸ B52.out) x (.slice none 0 0) (.slice none 0 0) (.slice none 0 0)).alloc (.cells (x.cells (.slice none 0 0) (.slice none 0 0) (.slice none 0 0)) 24)
    have u5 := (setPx_upd HU2.out (p := w.heap.size + 1) (.inr (by omega)) x (.slice none 0 0) (.slice none 0 0) (.slice none 0 0)).alloc (.cells (x.cells (.slice none 0 0) (.slice none 0 0) (.slice none 0 0)) 24)
    have bc5 : Blk ((setPx w2 (w.heap.size + 1) x (.slice none 0 0) (.slice none 0 0) (.slice none 0 0)).alloc (.cells (x.cells (.slice none 0 0) (.slice none 0 0) (.slice none 0 0)) 24)) b1 90 #[.slice ao n cap, .map (some g1), .bool true] := HBC.out.upd ((setPx_upd (Upd.refl [w.heap.size + 1] w2) (.inl (by simp)) x (.slice none 0 0) (.slice none 0 0) (.slice none 0 0)).alloc _) (by simp; omega)
    have b25 : Blk ((setPx w2 (w.heap.size + 1) x (.slice none 0 0) (.slice none 0 0) (.slice none 0 0)).alloc (.cells (x.cells (.slice none 0 0) (.slice none 0 0) (.slice none 0 0)) 24)) w.heap.size 24 Z := B22.out.upd ((setPx_upd (Upd.refl [w.heap.size + 1] w2) (.inl (by simp)) x (.slice none 0 0) (.slice none 0 0) (.slice none 0 0)).alloc _) (by simp)
    simp only [setPx, Px.cells] at b5 u5 bc5 b25
    have HX : Hid (claimPx l = x) := HQC.out
    refine (read_any l _ _ (HL.out.upd u5)).mono ?_
    rintro e w3 ⟨b2, g2, rfl, hr3, hu3⟩
    have HR3 := Lib.hid (hr3.rebase HL.out u5)
    have HP3 := Lib.hid (b5.upd hu3 (by simp))
    have HC3 := Lib.hid (bc5.upd hu3 (by simp))
    have HD3 := Lib.hid (b25.upd hu3 (by simp))
    have HU3 := Lib.hid (u5.trans hu3)
    have hne : b1 < b2 ∧ w.heap.size + 1 < b2 := ⟨Nat.lt_of_lt_of_le bc5.lt hr3.low.1, Nat.lt_of_lt_of_le b5.lt hr3.low.1⟩
    clear hr3 hu3 b5 u5 bc5 b25
    obtain ⟨oc, hoc⟩ : ∃ oc, oc = true := ⟨_, rfl⟩
    rw [← hoc] at HOKC HC3
    obtain ⟨X, hX⟩ : ∃ X, X = x := ⟨_, rfl⟩
    rw [← hX] at HX HP3
    clear hoc hX
  rotate_left
  focus
    simp only [Bool.false_eq_true, ↓reduceIte] at HQC
    go_wp2_with fail
    clear f0 f1 f2 f3 f4 f5 f6 f7 c0 c1 c2 c3 c4 c5 c6 c7 d0 d1 d2 d3 d4 d5 d6 d7 r0 r1 r2 r3 r4
    have b5 := (HZE.out ▸ B52.out : Blk w2 (w.heap.size + 1) 24 (Px.zero.cells (.slice none 0 0) (.slice none 0 0) (.slice none 0 0))).alloc (.cells (x.cells (.slice none 0 0) (.slice none 0 0) (.slice none 0 0)) 24)
    have u5 := HU2A.out
    have bc5 := HBCA.out
    have b25 := B22A.out
    have HX : Hid (claimPx l = Px.zero) := HQC.out
    refine (read_any l _ _ (HL.out.upd u5)).mono ?_
    rintro e w3 ⟨b2, g2, rfl, hr3, hu3⟩
    have HR3 := Lib.hid (hr3.rebase HL.out u5)
    have HP3 := Lib.hid (b5.upd hu3 (by simp))
    have HC3 := Lib.hid (bc5.upd hu3 (by simp))
    have HD3 := Lib.hid (b25.upd hu3 (by simp))
    have HU3 := Lib.hid (u5.trans hu3)
    have hne : b1 < b2 ∧ w.heap.size + 1 < b2 := ⟨Nat.lt_of_lt_of_le bc5.lt hr3.low.1, Nat.lt_of_lt_of_le b5.lt hr3.low.1⟩
    clear hr3 hu3 b5 u5 bc5 b25
    obtain ⟨oc, hoc⟩ : ∃ oc, oc = false := ⟨_, rfl⟩
    rw [← hoc] at HOKC HC3
    obtain ⟨X, hX⟩ : ∃ X, X = Px.zero := ⟨_, rfl⟩
    rw [← hX] at HX HP3
    clear hoc hX
  all_goals
    clear HQC HU2A B22A B52A HBCA
    have HN := Lib.hid (HX.out ▸ claimPx_nil l)
    go_wp2_with fail
    refine (options_rd 26 HR3.out HS.out).mono ?_
    rintro e w4 ⟨vf, of, rfl, ho4, hi4, hr4, hu4⟩
    obtain ⟨aof, capf, rfl, -, -⟩ := ho4.shape
    have HR4 := Lib.hid hr4
    have HP4 := Lib.hid (HP3.out.upd hu4 (by simp; omega))
    have HC4 := Lib.hid (HC3.out.upd hu4 (by simp; omega))
    have HD4 := Lib.hid (HD3.out.upd hu4 (by simp; omega))
    have HU4 : Hid (Upd [] w w4) := HU3.out.trans' hu4 (fun y hy => .inr (by simp at hy; omega))
    have hb2 : b2 < w3.heap.size := HR3.out.blk.lt
    have HF4 := Lib.hid ho4
    have HFI : Hid (∀ k, k ∈ of → w3.heap.size ≤ k) := hi4
    have h34 := hu4.size
    clear ho4 hi4 hr4 hu4
    go_wp2_with fail
    refine (options_rd 27 HR4.out HS.out).mono ?_
    rintro e w5 ⟨vt, ot, rfl, ho5, hi5, hr5, hu5⟩
    obtain ⟨aot, capt, rfl, -, -⟩ := ho5.shape
    have HR5 := Lib.hid hr5
    have HP5 := Lib.hid (HP4.out.upd hu5 (by simp; omega))
    have HC5 := Lib.hid (HC4.out.upd hu5 (by simp; omega))
    have HD5 := Lib.hid (HD4.out.upd hu5 (by simp; omega))
    have HU5 : Hid (Upd [] w w5) := HU4.out.trans' hu5 (fun y hy => .inr (by simp at hy; omega))
    have HF5 := Lib.hid (HF4.out.upd hu5 (fun k hk => by have := HFI.out k hk; simp; omega))
    have HT5 := Lib.hid ho5
    have HTI : Hid (∀ k, k ∈ ot → w4.heap.size ≤ k) := hi5
    have h45 := hu5.size
    clear ho5 hi5 hr5 hu5
    go_wp2_with fail
    refine (options_rd 28 HR5.out HS.out).mono ?_
    rintro e w6 ⟨vr, or, rfl, ho6, hi6, hr6, hu6⟩
    obtain ⟨aor, capr, rfl, -, -⟩ := ho6.shape
    have HR6 := Lib.hid hr6
    have HP6 := Lib.hid (HP5.out.upd hu6 (by simp; omega))
    have HC6 := Lib.hid (HC5.out.upd hu6 (by simp; omega))
    have HD6 := Lib.hid (HD5.out.upd hu6 (by simp; omega))
    have HU6 : Hid (Upd [] w w6) := HU5.out.trans' hu6 (fun y hy => .inr (by simp at hy; omega))
    have HF6 := Lib.hid (HF5.out.upd hu6 (fun k hk => by have := HFI.out k hk; simp; omega))
    have HT6 := Lib.hid (HT5.out.upd hu6 (fun k hk => by have := HTI.out k hk; simp; omega))
    have HE6 := Lib.hid ho6
    have HEI : Hid (∀ k, k ∈ or → w5.heap.size ≤ k) := hi6
    have HN12 : Hid (∀ k, k ∈ of → k ∉ ot) := fun k h1 h2 => by have := HF4.out.lt k h1; have := HTI.out k h2; omega
    have HN13 : Hid (∀ k, k ∈ of → k ∉ or) := fun k h1 h2 => by have := HF5.out.lt k h1; have := HEI.out k h2; omega
    have HN23 : Hid (∀ k, k ∈ ot → k ∉ or) := fun k h1 h2 => by have := HT5.out.lt k h1; have := HEI.out k h2; omega
    have h56 := hu6.size
    have hp3 : w.heap.size + 1 < w3.heap.size := HP3.out.lt
    have hb1 : b1 < w3.heap.size := HC3.out.lt
    clear ho6 hi6 hr6 hu6
    obtain ⟨lk, hlk⟩ : ∃ lk, lk = linked l := ⟨_, rfl⟩
    have HLK : Hid (linked l = lk) := hlk.symm
    have HRL := Lib.hid (HR6.out.same (show _ = lk by rw [hlk]; simp [linked]))
    clear hlk
    obtain ⟨r0, r1, r2, r3, r4⟩ := HRL.out.reads
    obtain ⟨f0, f1, f2, f3, f4, f5, f6, f7⟩ := HP6.out.froz
    obtain ⟨⟨c0, c1, c2, c3⟩, c4, c5, c6, c7⟩ := Px.cells_at HP6.out
    obtain ⟨e0, e1, e2, e3, e4, e5, e6, e7⟩ := HD6.out.froz
    obtain ⟨⟨d0, d1, d2, d3⟩, d4, d5, d6, d7⟩ := Px.cells_at (HZE.out ▸ HD6.out)
    have q2 := HC6.out.cell 2
    simp only [Px.zero] at d3 d4 d5 d6 d7
    simp at q2
    have hp3 : w.heap.size + 1 < w6.heap.size := HP6.out.lt
    have hb1 : b1 < w6.heap.size := HC6.out.lt
    clear HR6
    cases lk
    rotate_left
    focus
      go_wp2_with fail
      go_region
      clear f0 f1 f2 f3 f4 f5 f6 f7 c0 c1 c2 c3 c4 c5 c6 c7 d0 d1 d2 d3 d4 d5 d6 d7 e0 e1 e2 e3 e4 e5 e6 e7 r0 r1 r2 r3 r4 q2
      have HPE : Hid (parsed l = ({ X with first := osAv l 26, tx := osAv l 27, rx := osAv l 28 })) := by show _ = _; rw [parsed_eq, HLK.out, HX.out]; rfl
      go_wp2_with fail
      have B4 := (setPx_blk (((HZE.out ▸ HD6.out : Blk w6 w.heap.size 24 (Px.zero.cells (.slice none 0 0) (.slice none 0 0) (.slice none 0 0))).upd (Upd.mono (G := [w.heap.size + 1]) (((((Upd.refl [w.heap.size + 1] w6).setCell (p := ⟨w.heap.size + 1, 0, none⟩) (.slice aof (osAv l 26).length capf) (.inl (by simp))).setCell (p := ⟨w.heap.size + 1, 1, none⟩) (.slice aot (osAv l 27).length capt) (.inl (by simp))).setCell (p := ⟨w.heap.size + 1, 2, none⟩) (.slice aor (osAv l 28).length capr) (.inl (by simp)))) (fun x hx => .inl hx)) (by simp))) (({ X with first := osAv l 26, tx := osAv l 27, rx := osAv l 28 }) : Px) (.slice aof (osAv l 26).length capf) (.slice aot (osAv l 27).length capt) (.slice aor (osAv l 28).length capr)).drew
      obtain ⟨⟨c0, c1, c2, c3⟩, c4, c5, c6, c7⟩ := Px.cells_at B4
      have U4 := (setPx_upd ((((Upd.refl [w.heap.size, w.heap.size + 1] w6).setCell (p := ⟨w.heap.size + 1, 0, none⟩) (.slice aof (osAv l 26).length capf) (.inl (by simp))).setCell (p := ⟨w.heap.size + 1, 1, none⟩) (.slice aot (osAv l 27).length capt) (.inl (by simp))).setCell (p := ⟨w.heap.size + 1, 2, none⟩) (.slice aor (osAv l 28).length capr) (.inl (by simp))) (p := w.heap.size) (.inl (by simp)) (({ X with first := osAv l 26, tx := osAv l 27, rx := osAv l 28 }) : Px) (.slice aof (osAv l 26).length capf) (.slice aot (osAv l 27).length capt) (.slice aor (osAv l 28).length capr)).drew
      have U5 : Upd [] w _ := HU6.out.trans' U4 (fun y hy => .inr (by simp at hy; omega))
      simp only [setPx] at c0 c1 c2 c3 c4 c5 c6 c7 U4 U5
      exact bodyPost_ret (v := .tuple #[(({ X with first := osAv l 26, tx := osAv l 27, rx := osAv l 28 }) : Px).val (.slice aof (osAv l 26).length capf) (.slice aot (osAv l 27).length capt) (.slice aor (osAv l 28).length capr), .bool true, .bool oc]) (by simp [results, Tryz.results10, go_sem, Px.val, c0, c1, c2, c3, c4, c5, c6, c7]) rfl (by rw [HPE.out, HLK.out, ← HOKC.out]; exact ⟨⟨_, _, _, of, ot, or, rfl, HF6.out.upd U4 (fun k hk => by have := HFI.out k hk; simp; omega), HT6.out.upd U4 (fun k hk => by have := HTI.out k hk; simp; omega), HE6.out.upd U4 (fun k hk => by have := HEI.out k hk; simp; omega), fun k hk => by have := HFI.out k hk; omega, fun k hk => by have := HTI.out k hk; omega, fun k hk => by have := HEI.out k hk; omega, (fun h => by cases h), HN12.out, HN13.out, HN23.out⟩, U5⟩)
    focus
      go_wp2_with fail
      go_region
      clear f0 f1 f2 f3 f4 f5 f6 f7 c0 c1 c2 c3 c4 c5 c6 c7 d0 d1 d2 d3 d4 d5 d6 d7 e0 e1 e2 e3 e4 e5 e6 e7 r0 r1 r2 r3 r4 q2
      have HPE : Hid (parsed l = X) := by show _ = _; rw [parsed_eq, HLK.out, HX.out]; rfl
      go_wp2_with fail
      have B4 := (setPx_blk (HZE.out ▸ HD6.out : Blk w6 w.heap.size 24 (Px.zero.cells (.slice none 0 0) (.slice none 0 0) (.slice none 0 0))) (X : Px) (.slice none 0 0) (.slice none 0 0) (.slice none 0 0)).drew
      obtain ⟨⟨c0, c1, c2, c3⟩, c4, c5, c6, c7⟩ := Px.cells_at B4
      have U4 := (setPx_upd (Upd.refl [w.heap.size, w.heap.size + 1] w6) (p := w.heap.size) (.inl (by simp)) (X : Px) (.slice none 0 0) (.slice none 0 0) (.slice none 0 0)).drew
      have U5 : Upd [] w _ := HU6.out.trans' U4 (fun y hy => .inr (by simp at hy; omega))
      simp only [setPx] at c0 c1 c2 c3 c4 c5 c6 c7 U4 U5
      exact bodyPost_ret (v := .tuple #[(X : Px).val (.slice none 0 0) (.slice none 0 0) (.slice none 0 0), .bool false, .bool oc]) (by simp [results, Tryz.results10, go_sem, Px.val, c0, c1, c2, c3, c4, c5, c6, c7]) rfl (by rw [HPE.out, HLK.out, ← HOKC.out]; exact ⟨⟨.slice none 0 0, .slice none 0 0, .slice none 0 0, [], [], [], rfl, by rw [HN.out.1]; exact Own.nil _ _ _, by rw [HN.out.2.1]; exact Own.nil _ _ _, by rw [HN.out.2.2]; exact Own.nil _ _ _, by simp, by simp, by simp, fun _ => ⟨rfl, rfl, rfl⟩, by simp, by simp, by simp⟩, U5⟩)
end Go.Proofs.YtljiichcmljbgaaGreat
