/- The walks of a reader: read, text, number, options. -/
import Derived.Test.YtljiichcmljbgaaGreatQAvpA
import Derived.Test.YtljiichcmljbgaaGreatQMaps3
import Derived.Test.YtljiichcmljbgaaGreatQRes
import Derived.Test.YtljiichcmljbgaaGreatQFacts
namespace Go.Proofs.YtljiichcmljbgaaGreat
open Go.RowKit
set_option linter.unusedSimpArgs false
set_option linter.unusedVariables false
set_option maxRecDepth 100000

/-- Block g counts the values of l by their types. -/
def CntAt (w : World) (g : Nat) (l : List Av) : Prop := ∃ m, HoldsM encI w g m ∧ ∀ k, valM m k (.int .i64 0) = .int .i64 (cntAv k l)
theorem CntAt.upd {F : List Nat} {w w' : World} {g : Nat} {l : List Av} (h : CntAt w g l) (hu : Upd F w w') (hg : g ∉ F) : CntAt w' g l := by
  obtain ⟨m, h1, h2⟩ := h
  exact ⟨m, h1.away hu hg, h2⟩
theorem CntAt.new (w : World) : CntAt (w.alloc (.map #[] 0)) w.heap.size [] :=
  ⟨[], ⟨#[], 0, heap_alloc_new w _, rfl, by constructor <;> simp⟩, fun k => rfl⟩
theorem CntAt.lt {w : World} {g : Nat} {l : List Av} (h : CntAt w g l) : g < w.heap.size := by
  obtain ⟨m, ⟨es, clock, hb, _⟩, _⟩ := h
  rcases Nat.lt_or_ge g w.heap.size with h | h
  · exact h
  · rw [Array.getElem?_eq_none h] at hb; cases hb
theorem int_keyP : KeyEnc Int Tryz.prog 3 encI := int_key Tryz.underlying3
theorem CntAt.look {w : World} {g : Nat} {l : List Av} (h : CntAt w g l) (k : Int) : (Instr.lookup 88 (.map (some g)) (.int .i64 k) false).run Tryz.prog w = .ok (.int .i64 (cntAv k l)) w := by
  obtain ⟨m, h1, h2⟩ := h
  have hz : (zeroValue 3).run Tryz.prog w = .ok (.int .i64 0) w := by kernel_rfl
  have := h1.val int_keyP Tryz.underlying88 hz k
  rw [h2] at this
  exact this
theorem CntAt.more {w : World} {g : Nat} {l : List Av} (h : CntAt w g l) (x : Av) (hx : x.vendor = 0) :
    ∃ w', (Instr.mapUpdate 88 (.map (some g)) (.int .i64 x.kind) (.int .i64 ((cntAv x.kind l : Nat) + 1 : Int))).run Tryz.prog w = .ok () w' ∧ CntAt w' g (l ++ [x]) ∧ Upd [g] w w' := by
  obtain ⟨m, h1, h2⟩ := h
  obtain ⟨w', m', r1, r2, r3, r4, -⟩ := h1.over int_keyP Tryz.underlying88 x.kind (.int .i64 ((cntAv x.kind l : Nat) + 1 : Int))
  refine ⟨w', r1, ⟨m', r2, fun k => ?_⟩, r4⟩
  rw [r3, cntAv, cntAv, List.countP_append]
  by_cases hk : k = x.kind
  · rw [if_pos hk, hk]
    simp [avIs, hx, cntAv]
  · rw [if_neg hk, h2]
    have : avIs k x = false := by simp [avIs, hx]; exact fun e => hk e.symm
    simp [this, cntAv]
theorem CntAt.skip {w : World} {g : Nat} {l : List Av} (h : CntAt w g l) (x : Av) (hx : x.vendor ≠ 0) : CntAt w g (l ++ [x]) := by
  obtain ⟨m, h1, h2⟩ := h
  refine ⟨m, h1, fun k => ?_⟩
  rw [h2, cntAv, cntAv, List.countP_append]
  have : avIs k x = false := by simp [avIs, hx]
  simp [this]

/-- A reader of l, made behind the world w0. -/
structure RdrAt (w0 w : World) (b g : Nat) (vl : Value) (l : List Av) (ok : Bool) : Prop where
  blk : Blk w b 90 #[vl, .map (some g), .bool ok]
  ne : b ≠ g
  low : w0.heap.size ≤ b ∧ w0.heap.size ≤ g
  cnt : CntAt w g l
  avs : AvsAt w0 vl l
  upd : Upd [] w0 w
theorem RdrAt.more {w0 w w' : World} {b g : Nat} {vl : Value} {l : List Av} {ok : Bool} (h : RdrAt w0 w b g vl l ok) (hu : Upd [] w w') : RdrAt w0 w' b g vl l ok :=
  ⟨h.blk.upd hu (by simp), h.ne, h.low, h.cnt.upd hu (by simp), h.avs, h.upd.trans hu⟩
theorem RdrAt.set {w0 w : World} {b g : Nat} {vl : Value} {l : List Av} {ok : Bool} (h : RdrAt w0 w b g vl l ok) (ok' : Bool) : RdrAt w0 (w.setCell ⟨b, 2, none⟩ (.bool ok')) b g vl l ok' :=
  ⟨h.blk.set_ 2 _, h.ne, h.low, h.cnt.upd ((Upd.refl [b] w).setCell _ (by simp)) (by simp; exact fun e => h.ne e.symm), h.avs, h.upd.setCell _ (.inr h.low.1)⟩

def readA (w0 : World) (g : Nat) (l : List Av) (x : Av) (vs : List Value) (w : World) : Prop := match vs with
  | [] => Upd [] w0 w ∧ CntAt w g l
  | _ => Upd [g] w0 w ∧ CntAt w g (l ++ [x])

set_option maxHeartbeats 4000000 in
theorem read_any (l : List Av) (v : Value) (w : World) (hl : AvsAt w v l) :
    Calls Tryz.prog 30 #[v] w fun e w' => ∃ b g, e = .returned (.pointer (some ⟨b, 0, none⟩)) ∧ RdrAt w w' b g v l true ∧ Upd [] w w' := by
  obtain ⟨ao, cap, rfl, h1, h2, h3⟩ := id hl
  obtain ⟨n, hn⟩ : ∃ n, n = l.length := ⟨_, rfl⟩
  rw [← hn] at h1
  have HL := Lib.hid hl
  have HN := Lib.hid hn
  simp only [← hn]
  simp only [maxLen] at h2
  clear h3 hl hn
  have G0 : Hid (CntAt ((w.alloc (.map #[] 0)).alloc (.cells #[.slice ao n cap, .map (some w.heap.size), .bool true] 90)) w.heap.size []) := (CntAt.new w).upd ((Upd.refl [] _).alloc _) (by simp)
  have B0 : Hid (Blk ((w.alloc (.map #[] 0)).alloc (.cells #[.slice ao n cap, .map (some w.heap.size), .bool true] 90)) (w.heap.size + 1) 90 #[.slice ao n cap, .map (some w.heap.size), .bool true]) := by
    have h := Blk.new (w.alloc (.map #[] 0)) 90 #[.slice ao n cap, .map (some w.heap.size), .bool true]
    have hs : (w.alloc (.map #[] 0)).heap.size = w.heap.size + 1 := by simp
    rw [hs] at h
    exact h
  have U0 : Hid (Upd [] w ((w.alloc (.map #[] 0)).alloc (.cells #[.slice ao n cap, .map (some w.heap.size), .bool true] 90))) := ((Upd.refl _ _).alloc _).alloc _
  have hmk : ∀ W : World, (Instr.makeMap 88 none).run Tryz.prog W = .ok (.map (some W.heap.size)) (W.alloc (.map #[] 0)) := fun W => rfl
  go_enter Tryz.func30, Tryz.ntmps30
  go_wp2_with fail
  clear hmk
  go_loopg [12] n (fun m s12 wr => ∃ k : Nat, k + m = n ∧ s12 = .int .i64 k ∧ CntAt wr w.heap.size (l.take k) ∧ Blk wr (w.heap.size + 1) 90 #[.slice ao n cap, .map (some w.heap.size), .bool true] ∧ Upd [] w wr)
  case atStart => exact ⟨0, by omega, rfl, G0.out, B0.out, U0.out⟩
  case round =>
    obtain ⟨k, hk, rfl, hc, hb, hu⟩ := hrel
    have HU := Lib.hid hu
    have HB := Lib.hid hb
    have HCN := Lib.hid hc
    by_cases t : k < n
    · obtain ⟨x, hx⟩ : ∃ x, l[k]? = some x := by
        have := HN.out
        exact ⟨_, List.getElem?_eq_getElem (by omega)⟩
      obtain ⟨ao', cap', e0, -, -, h3⟩ := HL.out.upd hu
      injection e0 with e0 e1 e2
      clear e1
      subst e0 e2
      obtain ⟨q, rfl, c0, c1, c2, c3, c4⟩ := h3 k x hx
      clear h3
      have htake : l.take (k + 1) = l.take k ++ [x] := by
        obtain ⟨h5, h6⟩ := List.getElem?_eq_some_iff.1 hx
        rw [List.take_succ_eq_append_getElem h5, h6]
      have HT := Lib.hid htake
      clear hc hb hu hx htake
      by_cases tv : x.vendor = 0
      · have tv' : (x.vendor == 0) = true := by simpa using tv
        have HV := Lib.hid tv
        clear tv
        go_wp2_with fail
        have A5 := Blk.new wr 67 #[.bool x.must, .bool x.hidden, .int .i64 x.vendor, .int .i64 x.kind, .string x.val]
        have U5 : Hid (Upd [] wr (wr.alloc (.cells #[.bool x.must, .bool x.hidden, .int .i64 x.vendor, .int .i64 x.kind, .string x.val] 67))) := (Upd.refl _ _).alloc _
        have HB1 := Lib.hid (HB.out.upd U5.out (by simp))
        have HC1 := Lib.hid (HCN.out.upd U5.out (by simp))
        have hcb : cntAv x.kind (l.take k) < 9223372036854775807 := by
          have h5 : cntAv x.kind (l.take k) ≤ (l.take k).length := List.countP_le_length
          rw [List.length_take] at h5
          omega
        generalize wr.alloc (.cells #[.bool x.must, .bool x.hidden, .int .i64 x.vendor, .int .i64 x.kind, .string x.val] 67) = w1 at *
        have HA5 := Lib.hid A5
        obtain ⟨cn, hcn⟩ : ∃ cn, cn = cntAv x.kind (l.take k) := ⟨_, rfl⟩
        rw [← hcn] at hcb
        have HCV := Lib.hid hcn
        clear c0 c1 c2 c3 c4 A5 hcn
        refine wp_region_chain [some (.pointer (some ⟨w.heap.size + 1, 0, none⟩)), some (.pointer (some ⟨w.heap.size + 1, 0, none⟩)), some (.pointer (some ⟨w.heap.size + 1, 1, none⟩)), some (.map (some w.heap.size)), some (.pointer (some ⟨wr.heap.size, 3, none⟩)), some (.int .i64 x.kind), some (.int .i64 (cn : Nat)), some (.int .i64 ((cn : Int) + 1)), none] [8] (readA w1 w.heap.size (l.take k) x) [(0, 0), (0, 0), (0, 0), (0, 0), (0, 0), (0, 0), (0, 0), (0, 0), (0, 0)] (by kernel_rfl) (by kernel_rfl) (by kernel_rfl) (by kernel_rfl) (by kernel_rfl) (by kernel_rfl) (⟨(Upd.refl [] _).drew, HC1.out⟩) ?_ ?_
        · refine StepsC.cons ?_ (StepsC.cons ?_ (StepsC.cons ?_ (StepsC.cons ?_ (StepsC.cons ?_ (StepsC.cons ?_ (StepsC.cons ?_ (StepsC.cons ?_ (StepsC.cons ?_ StepsC.nil))))))))
          · refine chain_is _ (.inl rfl) ⟨_, rfl⟩ (by kernel_rfl) rfl ?_
            intro a W kst l0 h0 A0 hF hD
            have k0 : kst = 0 := Nat.le_antisymm h0 l0
            subst k0
            clear l0 h0
            have e3 : a.tmps[3]?.getD undef = _ := (ev a 3).symm.trans (hF 3 (by kernel_rfl))
            clear hF hD
            go_simp
          · refine chain_is _ (.inl rfl) ⟨_, rfl⟩ (by kernel_rfl) rfl ?_
            intro a W kst l0 h0 A0 hF hD
            have k0 : kst = 0 := Nat.le_antisymm h0 l0
            subst k0
            clear l0 h0
            have e19 : a.tmps[19]?.getD undef = .pointer (some ⟨w.heap.size + 1, 0, none⟩) := (ev a 19).symm.trans (hD _ (Array.mem_of_getElem? (i := 0) rfl) rfl)
            clear hF hD
            go_simp
          · refine chain_is _ (.inl rfl) ⟨_, rfl⟩ (by kernel_rfl) rfl ?_
            intro a W kst l0 h0 A0 hF hD
            have k0 : kst = 0 := Nat.le_antisymm h0 l0
            subst k0
            clear l0 h0
            have e20 : a.tmps[20]?.getD undef = .pointer (some ⟨w.heap.size + 1, 0, none⟩) := (ev a 20).symm.trans (hD _ (Array.mem_of_getElem? (i := 0) rfl) rfl)
            clear hF hD
            go_simp
          · refine chain_is _ (.inl rfl) ⟨_, rfl⟩ (by kernel_rfl) rfl ?_
            intro a W kst l0 h0 A0 hF hD
            have k0 : kst = 0 := Nat.le_antisymm h0 l0
            subst k0
            clear l0 h0
            have e21 : a.tmps[21]?.getD undef = .pointer (some ⟨w.heap.size + 1, 1, none⟩) := (ev a 21).symm.trans (hD _ (Array.mem_of_getElem? (i := 0) rfl) rfl)
            clear hF hD
            have hb1 := (HB1.out.upd A0.1 (by simp)).cell 1
            simp at hb1
            go_simp
          · refine chain_is _ (.inl rfl) ⟨_, rfl⟩ (by kernel_rfl) rfl ?_
            intro a W kst l0 h0 A0 hF hD
            have k0 : kst = 0 := Nat.le_antisymm h0 l0
            subst k0
            clear l0 h0
            have e5 : a.tmps[5]?.getD undef = _ := (ev a 5).symm.trans (hF 5 (by kernel_rfl))
            clear hF hD
            go_simp
          · refine chain_is _ (.inl rfl) ⟨_, rfl⟩ (by kernel_rfl) rfl ?_
            intro a W kst l0 h0 A0 hF hD
            have k0 : kst = 0 := Nat.le_antisymm h0 l0
            subst k0
            clear l0 h0
            have e23 : a.tmps[23]?.getD undef = .pointer (some ⟨wr.heap.size, 3, none⟩) := (ev a 23).symm.trans (hD _ (Array.mem_of_getElem? (i := 0) rfl) rfl)
            clear hF hD
            have hb3 := (HA5.out.upd A0.1 (by simp)).cell 3
            simp at hb3
            go_simp
          · refine chain_is _ (.inl rfl) ⟨_, rfl⟩ (by kernel_rfl) rfl ?_
            intro a W kst l0 h0 A0 hF hD
            have k0 : kst = 0 := Nat.le_antisymm h0 l0
            subst k0
            clear l0 h0
            have e22 : a.tmps[22]?.getD undef = .map (some w.heap.size) := (ev a 22).symm.trans (hD _ (Array.mem_of_getElem? (i := 0) rfl) rfl)
            have e24 : a.tmps[24]?.getD undef = .int .i64 x.kind := (ev a 24).symm.trans (hD _ (Array.mem_of_getElem? (i := 1) rfl) rfl)
            clear hF hD
            have hlk := A0.2.look x.kind
            rw [← HCV.out] at hlk
            go_simp
          · refine chain_is _ (.inl rfl) ⟨_, rfl⟩ (by kernel_rfl) rfl ?_
            intro a W kst l0 h0 A0 hF hD
            have k0 : kst = 0 := Nat.le_antisymm h0 l0
            subst k0
            clear l0 h0
            have e25 : a.tmps[25]?.getD undef = .int .i64 (cn : Nat) := (ev a 25).symm.trans (hD _ (Array.mem_of_getElem? (i := 0) rfl) rfl)
            clear hF hD
            go_simp
            exact IntWalk.i64_in _ (by omega)
          · refine chain_set (.inl rfl) rfl (by kernel_rfl) trivial ?_
            intro a W kst l0 h0 A0 hF hD
            have k0 : kst = 0 := Nat.le_antisymm h0 l0
            subst k0
            clear l0 h0
            have e22 : a.tmps[22]?.getD undef = .map (some w.heap.size) := (ev a 22).symm.trans (hD _ (Array.mem_of_getElem? (i := 0) rfl) rfl)
            have e24 : a.tmps[24]?.getD undef = .int .i64 x.kind := (ev a 24).symm.trans (hD _ (Array.mem_of_getElem? (i := 1) rfl) rfl)
            have e26 : a.tmps[26]?.getD undef = .int .i64 ((cn : Int) + 1) := (ev a 26).symm.trans (hD _ (Array.mem_of_getElem? (i := 2) rfl) rfl)
            clear hF hD
            obtain ⟨hu, hc⟩ := A0
            obtain ⟨w', r1, r2, r3⟩ := hc.more x HV.out
            rw [← HCV.out] at r1
            exact ⟨w', by (go_simp; first | done | rfl | exact ⟨rfl, rfl⟩), hu.mono (by simp) |>.trans r3, r2⟩
        intro vals W hv hA
        have v0 : vals 0 = .pointer (some ⟨w.heap.size + 1, 0, none⟩) := hv 0 (by decide)
        have v1 : vals 1 = .pointer (some ⟨w.heap.size + 1, 0, none⟩) := hv 1 (by decide)
        have v2 : vals 2 = .pointer (some ⟨w.heap.size + 1, 1, none⟩) := hv 2 (by decide)
        have v3 : vals 3 = .map (some w.heap.size) := hv 3 (by decide)
        have v4 : vals 4 = .pointer (some ⟨wr.heap.size, 3, none⟩) := hv 4 (by decide)
        have v5 : vals 5 = .int .i64 x.kind := hv 5 (by decide)
        have v6 : vals 6 = .int .i64 (cn : Nat) := hv 6 (by decide)
        have v7 : vals 7 = .int .i64 ((cn : Int) + 1) := hv 7 (by decide)
        clear hv
        obtain ⟨hu, hc⟩ := hA
        simp only [putAll, Act.put, Nat.zero_add, Nat.reduceAdd, v0, v1, v2, v3, v4, v5, v6, v7, List.setIfInBounds_toArray, List.set_cons_zero, List.set_cons_succ]
        clear v0 v1 v2 v3 v4 v5 v6 v7
        have HU7 := Lib.hid hu
        have HC7 := Lib.hid hc
        clear hu hc
        go_wp2_with fail
        go_roundg (n - (k + 1))
        case rel => exact ⟨k + 1, by omega, by go_num, by rw [HT.out]; exact HC7.out, HB1.out.upd HU7.out (by simp), (HU.out.trans U5.out).trans' HU7.out (fun y hy => .inr (by simp at hy; omega))⟩
        case measure => omega
      · have tv' : (x.vendor == 0) = false := by simpa using tv
        have HV := Lib.hid tv
        clear tv
        go_wp2_with fail
        go_roundg (n - (k + 1))
        case rel => exact ⟨k + 1, by omega, by go_num, by rw [HT.out]; exact (HCN.out.upd ((Upd.refl [] wr).alloc _) (by simp)).skip x HV.out, HB.out.upd ((Upd.refl [] wr).alloc _) (by simp), HU.out.alloc _⟩
        case measure => omega
    · obtain rfl : k = n := by omega
      rw [show l.take k = l from List.take_of_length_le (by rw [HN.out]; omega)] at hc
      have HC := Lib.hid hc
      clear hc hb hu HCN
      go_wp2_with fail
      go_ret
      exact ⟨_, _, rfl, ⟨HB.out, by omega, ⟨by omega, Nat.le_refl _⟩, HC.out, by have h := HL.out; rwa [← HN.out] at h, HU.out⟩, HU.out⟩
end Go.Proofs.YtljiichcmljbgaaGreat
