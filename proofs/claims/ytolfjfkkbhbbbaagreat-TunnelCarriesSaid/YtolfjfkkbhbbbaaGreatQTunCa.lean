/- The walk of chapter 21's TunnelCarries. -/
import Derived.Test.YtolfjfkkbhbbbaaGreatQTunEn
import Derived.Test.YtolfjfkkbhbbbaaGreatQTunCaP
import Derived.Test.YtolfjfkkbhbbbaaGreatQRawIn
namespace Go.Proofs.YtolfjfkkbhbbbaaGreat
open Go.RowKit
set_option linter.unusedSimpArgs false
set_option linter.unusedVariables false
set_option maxRecDepth 100000

/-- What is told, in a list that lies in its own block. -/
def ToldAt (W : World) (u : Value) (ms : List Cm) : Prop :=
  (ms = [] ∧ u = .slice none 0 0) ∨ (∃ g m v ol, ms = [m] ∧ u = .slice (some ⟨g, 0, none⟩) 1 1 ∧ Bx W g m v ∧ Own W 51 5 v m.l.length (avCells m.l) ol)
theorem cell_up {w W : World} (hu : Upd [] w W) {a : Addr} {v : Value} (h : w.cell? a = some v) : W.cell? a = some v := (hu.cell (cell_lt' h) (by simp)).trans h
section
variable {w W : World} {pa pb : Nat} {a b : Tn} {v : Value} {l : List ByteArray}
theorem Two.sendA (h : Two w W pa pb a b) {N : Nat} (hg : a.Good N) (s : Int) (l : List Av) (v : Value) (hl : AvsAt W v l) :
    Calls Tryz.prog 24 #[.pointer (some ⟨pa, 0, none⟩), .int .i64 s, v] W fun e w' => e = .returned (.int .i64 (a.sendP s l).2) ∧ Two w w' pa pb (a.sendP s l).1 b :=
  h.stepA fun own ha => tsendP_any ha s l v hl (by have := hg.secret; omega)
theorem TwoL.keep {W' : World} (h : TwoL w W pa pb a b v l) (k : Upd [] W W') : TwoL w W' pa pb a b v l := by
  obtain ⟨⟨oa, ob, ol, h1, h2, h3, h4, h5, h6, h7, h8⟩, hu⟩ := h
  exact ⟨⟨oa, ob, ol, h1.keep k, h2.keep k, h3, h4, h5, h6.upd k (by simp), h7, h8⟩, hu.trans k⟩
structure TellEnd (w : World) (pa pb : Nat) (a b : Tn) (v : Value) (l : List ByteArray) (ms : List Cm) (e : Ending) (w' : World) : Prop where
  ex : ∃ u, e = .returned u ∧ ToldAt w' u ms
  two : TwoL w w' pa pb a b v l
/-- The second end takes bytes, with the list beside; what it tells. -/
theorem TwoL.tellB (h : TwoL w W pa pb a b v l) (s : ByteArray) (hs : s.size ≤ 400000) {N : Nat} (hg : b.Good N) :
    Calls Tryz.prog 21 #[.pointer (some ⟨pb, 0, none⟩), .string s] W (TellEnd w pa pb a (b.take s).1 v l (b.take s).2) := by
  obtain ⟨⟨oa, ob, ol, h1, h2, h3, h4, h5, h6, h7, h8⟩, hu⟩ := h
  refine (ttake_any h2 s hs hg.secret hg.asked (by have := hg.asks; omega) hg.nw).mono ?_
  rintro e w' ⟨⟨u, ob', rfl, k1, k2, k4⟩, k3⟩
  obtain ⟨z1, z2, z3, z4⟩ := Two.nextA h2 h1 (fun k hk hk2 => h3 k hk2 hk) h5 h4 hu k1 k2 k3
  refine ⟨⟨u, rfl, ?_⟩, ⟨oa, ob', ol, z1, k1, fun k hk hk2 => z2 k hk2 hk, h4, z3, h6.upd k3 h8, h7, fun k hk hk2 => ?_⟩, z4⟩
  · rcases k4 with k4 | ⟨g, m, v, ol, q1, q2, q3, q4, q5, q6, -⟩
    · exact .inl k4
    · exact .inr ⟨g, m, v, ol, q1, q2, q3, q6⟩
  · rcases k2 k hk2 with h | h
    · exact h8 k hk h
    · have := h6.lt k hk; omega
end
/-- The sending, stage by stage. -/
def caA (w0 : World) (pa pb : Nat) (a a' b : Tn) (k : Nat) (vs : List Value) (W : World) : Prop := match vs with
  | [] => Two w0 W pa pb a b
  | [u] => ∃ g, u = .slice (some ⟨g, 0, none⟩) 1 1 ∧ Blk W g 5 #[.int .u8 k] ∧ Two w0 W pa pb a b
  | [_, u] => Two w0 W pa pb a b
  | [_, _, u] => ∃ g, u = .slice (some ⟨g, 0, none⟩) 2 2 ∧ AvsAt W u (caL k) ∧ Two w0 W pa pb a b
  | _ => Two w0 W pa pb a' b
theorem caA_u {w0 W : World} {pa pb : Nat} {a a' b : Tn} {k : Nat} {vs : List Value} (h : caA w0 pa pb a a' b k vs W) : Upd [] w0 W := by
  match vs, h with
  | [], h => exact Two.u h
  | [_], ⟨_, _, _, h⟩ => exact h.u
  | [_, _], h => exact Two.u h
  | [_, _, _], ⟨_, _, _, h⟩ => exact h.u
  | _ :: _ :: _ :: _ :: _, h => exact Two.u h
/-- The comparing, stage by stage. -/
def cbA (w0 : World) (k : Nat) (vs : List Value) (W : World) : Prop := match vs with
  | [u] => ∃ g, u = .slice (some ⟨g, 0, none⟩) 1 1 ∧ Blk W g 5 #[.int .u8 k] ∧ Upd [] w0 W
  | _ => Upd [] w0 W
theorem cbA_u {w0 W : World} {k : Nat} {vs : List Value} (h : cbA w0 k vs W) : Upd [] w0 W := by
  match vs, h with
  | [], h => exact h
  | [_], ⟨_, _, _, h⟩ => exact h
  | _ :: _ :: _, h => exact h
theorem caL_cells (k : Nat) : avCells (caL k) = [.bool true, .bool false, .int .i64 0, .int .i64 0, .string ⟨#[0, 15]⟩, .bool true, .bool false, .int .i64 0, .int .i64 34, .string (strOfNums [(k : Int)])] := rfl

/-- What the law's end A holds as i messages wait, and B. -/
def caC (ss : List Int) (n : Nat) : C := chn 2 1 (caW ss n) [] 3 0 false
def caD : C := chn 1 2 [] [] 2 0 false
def caP (A B : Tn) (ss : List Int) (n : Nat) : Tn × Tn := (liveW A (caC ss n), liveW B caD)

set_option maxHeartbeats 4000000 in
theorem tunnelCarries_any (s : ByteArray) (ss : List Int) (v : Value) (w : World) (hl : IntsAt w v ss) :
    Calls Tryz.prog 5 #[.string s, v] w (AliveEnd w) := by
  have HAL := Lib.hid alive21_any
  have HL := Lib.hid hl
  obtain ⟨ao, cap, rfl, -, -, -⟩ := hl
  obtain ⟨n, hn⟩ : ∃ n, ss.length = n := ⟨_, rfl⟩
  have HNL := Lib.hid hn
  rw [hn] at HL
  rw [hn]
  clear hn
  by_cases hs : s.size ≤ 60
  case neg =>
    go_enter Tryz.func5, Tryz.ntmps5
    go_wp2_with fail
    refine (HAL.out _).mono ?_
    rintro e w1 ⟨rfl, u1⟩
    go_wp2_with fail
    go_ret
    exact ⟨rfl, u1⟩
  by_cases c1 : n ≤ 8
  case neg =>
    go_enter Tryz.func5, Tryz.ntmps5
    go_wp2_with fail
    refine (HAL.out _).mono ?_
    rintro e w1 ⟨rfl, u1⟩
    go_wp2_with fail
    go_ret
    exact ⟨rfl, u1⟩
  have HP := Lib.hid ((pair_any s s hs hs w).mono fun e w' k => k.ex)
  have HO : Hid ((endA s).open_ = (openC (endA s), 0)) := open_endA _
  have HG := Lib.hid (endA_good s hs)
  have HME : Hid (∀ W pa pb, Two w W pa pb (openC (endA s)) (endB s) → Calls Tryz.prog 13 #[.pointer (some ⟨pa, 0, none⟩), .pointer (some ⟨pb, 0, none⟩), .int .i64 4] W (MetEnd w pa pb (liveW (O5 (endA s) (endB s)) (caC ss 0), liveW (R5 (endA s) (endB s)) caD) 20000)) := by
    intro W pa pb h
    have k := pair_meet s s hs hs h 4 (by omega)
    rw [meet_know (startA s) (startB s) rfl (know_same rfl) 2] at k
    exact k
  have HT : Hid ((∀ k, 0 ≤ ss.getD k 0 ∧ ss.getD k 0 < 65536) → toldN 20 (caP (O5 (endA s) (endB s)) (R5 (endA s) (endB s)) ss n) = caT ss n) := fun h => carried h rfl rfl ⟨by show (0 : Int) ≤ 5; omega, by show (5 : Int) < 65536; omega⟩ rfl c1
  generalize O5 (endA s) (endB s) = A5 at *
  generalize R5 (endA s) (endB s) = B5 at *
  generalize openC (endA s) = A1 at *
  generalize endA s = A0 at *
  generalize endB s = B0 at *
  have HS := Lib.hid hs
  have HC1 := Lib.hid c1
  go_enter Tryz.func5, Tryz.ntmps5
  go_wp2_with fail
  refine HP.out.mono ?_
  rintro e w1 ⟨pa, pb, rfl, h1⟩
  have H1 := Lib.hid h1
  clear h1
  go_wp2_with fail
  refine (H1.out.openA HG.out).mono ?_
  rintro e w2 ⟨rfl, h2⟩
  rw [HO.out] at h2
  simp only [HO.out]
  have H2 := Lib.hid h2
  clear h2
  go_wp2_with fail
  refine (HME.out _ _ _ H2.out).mono ?_
  rintro e w3 ⟨rfl, h3⟩
  have H3 := Lib.hid h3
  clear h3 HME HG HO HP H1 H2
  go_wp2_with fail
  go_loopg [8] n (fun m s8 wr => ∃ i : Nat, i + m = n ∧ s8 = .int .i64 i ∧ Met w wr pa pb (liveW A5 (caC ss i), liveW B5 caD) 20000 ∧ ∀ k, k < i → 0 ≤ ss.getD k 0 ∧ ss.getD k 0 ≤ 65535)
  case atStart => exact ⟨0, by omega, rfl, H3.out, fun k hk => absurd hk (by omega)⟩
  case round =>
    obtain ⟨i, hi, rfl, hr, hall⟩ := hrel
    have HR := Lib.hid hr
    have HALL := Lib.hid hall
    clear hr hall H3
    by_cases tt : i < n
    · obtain ⟨x, hx⟩ : ∃ x, ss[i]? = some x := ⟨_, List.getElem?_eq_getElem (by have := HNL.out; omega)⟩
      obtain ⟨ao', cap', hv, hle, hmx, hcl⟩ := HL.out
      injection hv with hv1 hv2 hv3
      subst hv1 hv3
      obtain ⟨q, rfl, hq⟩ := hcl i x hx
      have HQ := Lib.hid hq
      have HX : Hid (ss.getD i 0 = x) := by show _ = _; rw [List.getD_eq_getElem?_getD, hx]; rfl
      have hle2 : n ≤ cap := by have := HNL.out; omega
      have hk8 : True → IntKind.u8.wrap (i : Int) = i := fun _ => by
        have : (i : Int) % 256 = i := by omega
        simp [IntKind.wrap, IntKind.bits, IntKind.signed, this]
      clear hv2 hle hmx hcl hq hx
      by_cases sr : 0 ≤ x ∧ x ≤ 65535
      · have HSE : Hid ((liveW A5 (caC ss i)).sendP x (caL i) = (liveW A5 (caC ss (i + 1)), 0)) := by
          have := ca_send (ss := ss) (A := A5) (n := i) (by omega) (by rw [HX.out]; exact sr)
          rw [HX.out] at this
          exact this
        have HGS : Hid ((liveW A5 (caC ss (i + 1))).Good 20000) := by
          have := HR.out.ga.sendP x (caL i)
          dsimp only at this
          rw [HSE.out] at this
          exact this
        generalize liveW A5 (caC ss i) = T0 at *
        obtain ⟨T1, hT1⟩ : ∃ T, liveW A5 (caC ss (i + 1)) = T := ⟨_, rfl⟩
        have HT1 := Lib.hid hT1
        rw [hT1] at HSE HGS
        clear hT1
        obtain ⟨sr1, sr2⟩ := sr
        go_wp2_with fail
        refine wp_region_chain [some (.pointer (some ⟨pa, 0, none⟩)), some (.slice (some q) n cap), some (.int .i64 i), some (.pointer (some (q.add i))), some (.int .i64 x), some (.agg #[.bool true, .bool false, .int .i64 0, .int .i64 0, .string ⟨#[0, 15]⟩]), some (.int .i64 i), some (.int .u8 i), none, some (.string (strOfNums [(i : Int)])), some (.agg #[.bool true, .bool false, .int .i64 0, .int .i64 34, .string (strOfNums [(i : Int)])]), none, some (.int .i64 0), some (.int .i64 0)] [8,9,11,12] (caA w pa pb T0 T1 (liveW B5 caD) i) [(0, 3), (0, 3), (0, 3), (0, 3), (0, 3), (0, 2), (0, 0), (0, 0), (0, 0), (1, 1), (2, 2), (2, 2), (3, 3), (4, 4)] (by kernel_rfl) (by kernel_rfl) (by kernel_rfl) (by kernel_rfl) (by kernel_rfl) (by kernel_rfl) ((HR.out.two.keep ((Upd.refl [] _).drew))) ?_ ?_
        · refine StepsC.cons ?_ (StepsC.cons ?_ (StepsC.cons ?_ (StepsC.cons ?_ (StepsC.cons ?_ (StepsC.cons ?_ (StepsC.cons ?_ (StepsC.cons ?_ (StepsC.cons ?_ (StepsC.cons ?_ (StepsC.cons ?_ (StepsC.cons ?_ (StepsC.cons ?_ (StepsC.cons ?_ StepsC.nil)))))))))))))
          · refine chain_is _ (.inl rfl) ⟨_, rfl⟩ (by kernel_rfl) rfl ?_
            intro a W kst l0 h0 A0 hF hD
            have e5 : a.tmps[5]?.getD undef = _ := (ev a 5).symm.trans (hF 5 (by kernel_rfl))
            clear hF hD
            go_simp
          · refine chain_is _ (.inl rfl) ⟨_, rfl⟩ (by kernel_rfl) rfl ?_
            intro a W kst l0 h0 A0 hF hD
            have e1 : a.tmps[1]?.getD undef = _ := (ev a 1).symm.trans (hF 1 (by kernel_rfl))
            clear hF hD
            go_simp
          · refine chain_is _ (.inl rfl) ⟨_, rfl⟩ (by kernel_rfl) rfl ?_
            intro a W kst l0 h0 A0 hF hD
            have e8 : a.tmps[8]?.getD undef = _ := (ev a 8).symm.trans (hF 8 (by kernel_rfl))
            clear hF hD
            go_simp
          · refine chain_is _ (.inl rfl) ⟨_, rfl⟩ (by kernel_rfl) rfl ?_
            intro a W kst l0 h0 A0 hF hD
            have e51 : a.tmps[51]?.getD undef = .slice (some q) n cap := (ev a 51).symm.trans (hD _ (Array.mem_of_getElem? (i := 0) rfl) rfl)
            have e52 : a.tmps[52]?.getD undef = .int .i64 i := (ev a 52).symm.trans (hD _ (Array.mem_of_getElem? (i := 1) rfl) rfl)
            clear hF hD
            go_simp
          · refine chain_is _ (.inl rfl) ⟨_, rfl⟩ (by kernel_rfl) rfl ?_
            intro a W kst l0 h0 A0 hF hD
            have e53 : a.tmps[53]?.getD undef = .pointer (some (q.add i)) := (ev a 53).symm.trans (hD _ (Array.mem_of_getElem? (i := 0) rfl) rfl)
            clear hF hD
            have g2 := cell_up (caA_u A0) HQ.out
            go_simp
          · refine chain_is _ (.inl rfl) ⟨_, rfl⟩ (by kernel_rfl) rfl ?_
            intro a W kst l0 h0 A0 hF hD
            clear hF hD
            go_simp
          · refine chain_is _ (.inl rfl) ⟨_, rfl⟩ (by kernel_rfl) rfl ?_
            intro a W kst l0 h0 A0 hF hD
            have k0 : kst = 0 := Nat.le_antisymm h0 l0
            subst k0
            clear l0 h0
            have e8 : a.tmps[8]?.getD undef = _ := (ev a 8).symm.trans (hF 8 (by kernel_rfl))
            clear hF hD
            go_simp
          · refine chain_is _ (.inl rfl) ⟨_, rfl⟩ (by kernel_rfl) rfl ?_
            intro a W kst l0 h0 A0 hF hD
            have k0 : kst = 0 := Nat.le_antisymm h0 l0
            subst k0
            clear l0 h0
            have e56 : a.tmps[56]?.getD undef = .int .i64 i := (ev a 56).symm.trans (hD _ (Array.mem_of_getElem? (i := 0) rfl) rfl)
            clear hF hD
            have := hk8 trivial
            go_simp
          · refine chain_run (.inl rfl) ⟨_, rfl⟩ (by kernel_rfl) ?_
            intro a W kst l0 h0 A0 hF hD
            have k0 : kst = 0 := Nat.le_antisymm h0 l0
            subst k0
            clear l0 h0
            have e57 : a.tmps[57]?.getD undef = .int .u8 i := (ev a 57).symm.trans (hD _ (Array.mem_of_getElem? (i := 0) rfl) rfl)
            clear hF hD
            have h2 : Two w W pa pb T0 (liveW B5 caD) := A0
            refine ⟨.slice (some ⟨W.heap.size, 0, none⟩) 1 1, W.alloc (Obj.cells #[.int .u8 i] 5), by (go_simp; first | done | rfl), trivial, W.heap.size, rfl, Blk.new _ _ _, h2.keep ((Upd.refl [] _).alloc _)⟩
          · refine chain_run (.inl rfl) ⟨_, rfl⟩ (by kernel_rfl) ?_
            intro a W kst l0 h0 A0 hF hD
            have k0 : kst = 1 := Nat.le_antisymm h0 l0
            subst k0
            clear l0 h0
            clear hF hD
            obtain ⟨g, hv, h1, h2⟩ := A0
            have e58 : a.tmps[58]?.getD undef = _ := (ev a 58).symm.trans hv
            have hcv := str1 (P := Tryz.prog) (dst := 9) Tryz.underlying52 Tryz.underlying5 Tryz.underlying9 h1
            exact ⟨_, W, by (go_simp; first | done | rfl), rfl, h2⟩
          · refine chain_is _ (.inl rfl) ⟨_, rfl⟩ (by kernel_rfl) rfl ?_
            intro a W kst l0 h0 A0 hF hD
            have k0 : kst = 2 := Nat.le_antisymm h0 l0
            subst k0
            clear l0 h0
            have e59 : a.tmps[59]?.getD undef = .string (strOfNums [(i : Int)]) := (ev a 59).symm.trans (hD _ (Array.mem_of_getElem? (i := 0) rfl) rfl)
            clear hF hD
            go_simp
          · refine chain_run (.inl rfl) ⟨_, rfl⟩ (by kernel_rfl) ?_
            intro a W kst l0 h0 A0 hF hD
            have k0 : kst = 2 := Nat.le_antisymm h0 l0
            subst k0
            clear l0 h0
            have e55 : a.tmps[55]?.getD undef = .agg #[.bool true, .bool false, .int .i64 0, .int .i64 0, .string ⟨#[0, 15]⟩] := (ev a 55).symm.trans (hD _ (Array.mem_of_getElem? (i := 0) rfl) rfl)
            have e60 : a.tmps[60]?.getD undef = .agg #[.bool true, .bool false, .int .i64 0, .int .i64 34, .string (strOfNums [(i : Int)])] := (ev a 60).symm.trans (hD _ (Array.mem_of_getElem? (i := 1) rfl) rfl)
            clear hF hD
            have h2 : Two w W pa pb T0 (liveW B5 caD) := A0
            have ho := Own.rows_new W 51 (size := 5) (n := 2) (cs := avCells (caL i)) rfl (by simp [maxLen])
            refine ⟨.slice (some ⟨W.heap.size, 0, none⟩) 2 2, W.alloc (Obj.cells (avCells (caL i)).toArray 51), ?_, trivial, W.heap.size, rfl, AvsAt.of_own (l := caL i) ho, h2.keep ((Upd.refl [] _).alloc _)⟩
            rw [caL_cells]
            go_simp
          · refine chain_call (.inl rfl) ⟨_, rfl⟩ (by kernel_rfl) ?_
            intro a W kst l0 h0 A0 hF hD
            have k0 : kst = 3 := Nat.le_antisymm h0 l0
            subst k0
            clear l0 h0
            have e50 : a.tmps[50]?.getD undef = .pointer (some ⟨pa, 0, none⟩) := (ev a 50).symm.trans (hD _ (Array.mem_of_getElem? (i := 0) rfl) rfl)
            have e54 : a.tmps[54]?.getD undef = .int .i64 x := (ev a 54).symm.trans (hD _ (Array.mem_of_getElem? (i := 1) rfl) rfl)
            clear hF hD
            obtain ⟨g, hv, h1, h2⟩ := A0
            have e61 : a.tmps[61]?.getD undef = _ := (ev a 61).symm.trans hv
            rw [hv] at h1
            refine ⟨_, _, by (go_simp; first | done | rfl | exact ⟨rfl, rfl⟩), ?_⟩
            refine (h2.sendA HR.out.ga x (caL i) _ h1).mono ?_
            rw [HSE.out]
            rintro e w3 ⟨rfl, h3⟩
            exact ⟨_, rfl, rfl, h3⟩
          · refine chain_is _ (.inl rfl) ⟨_, rfl⟩ (by kernel_rfl) rfl ?_
            intro a W kst l0 h0 A0 hF hD
            have k0 : kst = 4 := Nat.le_antisymm h0 l0
            subst k0
            clear l0 h0
            have e62 : a.tmps[62]?.getD undef = .int .i64 0 := (ev a 62).symm.trans (hD _ (Array.mem_of_getElem? (i := 0) rfl) rfl)
            clear hF hD
            go_simp
        intro vals W hv hA
        have v0 : vals 0 = .pointer (some ⟨pa, 0, none⟩) := hv 0 (by decide)
        have v1 : vals 1 = .slice (some q) n cap := hv 1 (by decide)
        have v2 : vals 2 = .int .i64 i := hv 2 (by decide)
        have v3 : vals 3 = .pointer (some (q.add i)) := hv 3 (by decide)
        have v4 : vals 4 = .int .i64 x := hv 4 (by decide)
        have v5 : vals 5 = .agg #[.bool true, .bool false, .int .i64 0, .int .i64 0, .string ⟨#[0, 15]⟩] := hv 5 (by decide)
        have v6 : vals 6 = .int .i64 i := hv 6 (by decide)
        have v7 : vals 7 = .int .u8 i := hv 7 (by decide)
        have v9 : vals 9 = .string (strOfNums [(i : Int)]) := hv 9 (by decide)
        have v10 : vals 10 = .agg #[.bool true, .bool false, .int .i64 0, .int .i64 34, .string (strOfNums [(i : Int)])] := hv 10 (by decide)
        have v12 : vals 12 = .int .i64 0 := hv 12 (by decide)
        have v13 : vals 13 = .int .i64 0 := hv 13 (by decide)
        clear hv
        have hA2 : Two w W pa pb T1 (liveW B5 caD) := hA
        simp only [putAll, Act.put, Nat.zero_add, Nat.reduceAdd, v0, v1, v2, v3, v4, v5, v6, v7, v9, v10, v12, v13, List.setIfInBounds_toArray, List.set_cons_zero, List.set_cons_succ]
        clear v0 v1 v2 v3 v4 v5 v6 v7 v9 v10 v12 v13
        have HA2 := Lib.hid hA2
        have g2 := cell_up HA2.out.u HQ.out
        clear hA2 hA
        go_wp2_with fail
        go_roundg (n - (i + 1))
        case rel => exact ⟨i + 1, by omega, by go_num, by rw [HT1.out]; exact ⟨HA2.out, HGS.out, HR.out.gb⟩, fun k hk => by
          by_cases hki : k = i
          · subst hki; rw [HX.out]; exact ⟨sr1, sr2⟩
          · exact HALL.out k (by omega)⟩
        case measure => omega
      · have HSE : Hid ((liveW A5 (caC ss i)).sendP x (caL i) = (liveW A5 (caC ss i), 1)) := ca_not (by omega)
        generalize liveW A5 (caC ss i) = T0 at *
        have sr' : x < 0 ∨ 65535 < x := by omega
        clear sr
        rcases sr' with sr | sr
        all_goals
          go_wp2_with fail
          refine wp_region_chain [some (.pointer (some ⟨pa, 0, none⟩)), some (.slice (some q) n cap), some (.int .i64 i), some (.pointer (some (q.add i))), some (.int .i64 x), some (.agg #[.bool true, .bool false, .int .i64 0, .int .i64 0, .string ⟨#[0, 15]⟩]), some (.int .i64 i), some (.int .u8 i), none, some (.string (strOfNums [(i : Int)])), some (.agg #[.bool true, .bool false, .int .i64 0, .int .i64 34, .string (strOfNums [(i : Int)])]), none, some (.int .i64 1), some (.int .i64 1)] [8,9,11,12] (caA w pa pb T0 T0 (liveW B5 caD) i) [(0, 3), (0, 3), (0, 3), (0, 3), (0, 3), (0, 2), (0, 0), (0, 0), (0, 0), (1, 1), (2, 2), (2, 2), (3, 3), (4, 4)] (by kernel_rfl) (by kernel_rfl) (by kernel_rfl) (by kernel_rfl) (by kernel_rfl) (by kernel_rfl) ((HR.out.two.keep ((Upd.refl [] _).drew))) ?_ ?_
          · refine StepsC.cons ?_ (StepsC.cons ?_ (StepsC.cons ?_ (StepsC.cons ?_ (StepsC.cons ?_ (StepsC.cons ?_ (StepsC.cons ?_ (StepsC.cons ?_ (StepsC.cons ?_ (StepsC.cons ?_ (StepsC.cons ?_ (StepsC.cons ?_ (StepsC.cons ?_ (StepsC.cons ?_ StepsC.nil)))))))))))))
            · refine chain_is _ (.inl rfl) ⟨_, rfl⟩ (by kernel_rfl) rfl ?_
              intro a W kst l0 h0 A0 hF hD
              have e5 : a.tmps[5]?.getD undef = _ := (ev a 5).symm.trans (hF 5 (by kernel_rfl))
              clear hF hD
              go_simp
            · refine chain_is _ (.inl rfl) ⟨_, rfl⟩ (by kernel_rfl) rfl ?_
              intro a W kst l0 h0 A0 hF hD
              have e1 : a.tmps[1]?.getD undef = _ := (ev a 1).symm.trans (hF 1 (by kernel_rfl))
              clear hF hD
              go_simp
            · refine chain_is _ (.inl rfl) ⟨_, rfl⟩ (by kernel_rfl) rfl ?_
              intro a W kst l0 h0 A0 hF hD
              have e8 : a.tmps[8]?.getD undef = _ := (ev a 8).symm.trans (hF 8 (by kernel_rfl))
              clear hF hD
              go_simp
            · refine chain_is _ (.inl rfl) ⟨_, rfl⟩ (by kernel_rfl) rfl ?_
              intro a W kst l0 h0 A0 hF hD
              have e51 : a.tmps[51]?.getD undef = .slice (some q) n cap := (ev a 51).symm.trans (hD _ (Array.mem_of_getElem? (i := 0) rfl) rfl)
              have e52 : a.tmps[52]?.getD undef = .int .i64 i := (ev a 52).symm.trans (hD _ (Array.mem_of_getElem? (i := 1) rfl) rfl)
              clear hF hD
              go_simp
            · refine chain_is _ (.inl rfl) ⟨_, rfl⟩ (by kernel_rfl) rfl ?_
              intro a W kst l0 h0 A0 hF hD
              have e53 : a.tmps[53]?.getD undef = .pointer (some (q.add i)) := (ev a 53).symm.trans (hD _ (Array.mem_of_getElem? (i := 0) rfl) rfl)
              clear hF hD
              have g2 := cell_up (caA_u A0) HQ.out
              go_simp
            · refine chain_is _ (.inl rfl) ⟨_, rfl⟩ (by kernel_rfl) rfl ?_
              intro a W kst l0 h0 A0 hF hD
              clear hF hD
              go_simp
            · refine chain_is _ (.inl rfl) ⟨_, rfl⟩ (by kernel_rfl) rfl ?_
              intro a W kst l0 h0 A0 hF hD
              have k0 : kst = 0 := Nat.le_antisymm h0 l0
              subst k0
              clear l0 h0
              have e8 : a.tmps[8]?.getD undef = _ := (ev a 8).symm.trans (hF 8 (by kernel_rfl))
              clear hF hD
              go_simp
            · refine chain_is _ (.inl rfl) ⟨_, rfl⟩ (by kernel_rfl) rfl ?_
              intro a W kst l0 h0 A0 hF hD
              have k0 : kst = 0 := Nat.le_antisymm h0 l0
              subst k0
              clear l0 h0
              have e56 : a.tmps[56]?.getD undef = .int .i64 i := (ev a 56).symm.trans (hD _ (Array.mem_of_getElem? (i := 0) rfl) rfl)
              clear hF hD
              have := hk8 trivial
              go_simp
            · refine chain_run (.inl rfl) ⟨_, rfl⟩ (by kernel_rfl) ?_
              intro a W kst l0 h0 A0 hF hD
              have k0 : kst = 0 := Nat.le_antisymm h0 l0
              subst k0
              clear l0 h0
              have e57 : a.tmps[57]?.getD undef = .int .u8 i := (ev a 57).symm.trans (hD _ (Array.mem_of_getElem? (i := 0) rfl) rfl)
              clear hF hD
              have h2 : Two w W pa pb T0 (liveW B5 caD) := A0
              refine ⟨.slice (some ⟨W.heap.size, 0, none⟩) 1 1, W.alloc (Obj.cells #[.int .u8 i] 5), by (go_simp; first | done | rfl), trivial, W.heap.size, rfl, Blk.new _ _ _, h2.keep ((Upd.refl [] _).alloc _)⟩
            · refine chain_run (.inl rfl) ⟨_, rfl⟩ (by kernel_rfl) ?_
              intro a W kst l0 h0 A0 hF hD
              have k0 : kst = 1 := Nat.le_antisymm h0 l0
              subst k0
              clear l0 h0
              clear hF hD
              obtain ⟨g, hv, h1, h2⟩ := A0
              have e58 : a.tmps[58]?.getD undef = _ := (ev a 58).symm.trans hv
              have hcv := str1 (P := Tryz.prog) (dst := 9) Tryz.underlying52 Tryz.underlying5 Tryz.underlying9 h1
              exact ⟨_, W, by (go_simp; first | done | rfl), rfl, h2⟩
            · refine chain_is _ (.inl rfl) ⟨_, rfl⟩ (by kernel_rfl) rfl ?_
              intro a W kst l0 h0 A0 hF hD
              have k0 : kst = 2 := Nat.le_antisymm h0 l0
              subst k0
              clear l0 h0
              have e59 : a.tmps[59]?.getD undef = .string (strOfNums [(i : Int)]) := (ev a 59).symm.trans (hD _ (Array.mem_of_getElem? (i := 0) rfl) rfl)
              clear hF hD
              go_simp
            · refine chain_run (.inl rfl) ⟨_, rfl⟩ (by kernel_rfl) ?_
              intro a W kst l0 h0 A0 hF hD
              have k0 : kst = 2 := Nat.le_antisymm h0 l0
              subst k0
              clear l0 h0
              have e55 : a.tmps[55]?.getD undef = .agg #[.bool true, .bool false, .int .i64 0, .int .i64 0, .string ⟨#[0, 15]⟩] := (ev a 55).symm.trans (hD _ (Array.mem_of_getElem? (i := 0) rfl) rfl)
              have e60 : a.tmps[60]?.getD undef = .agg #[.bool true, .bool false, .int .i64 0, .int .i64 34, .string (strOfNums [(i : Int)])] := (ev a 60).symm.trans (hD _ (Array.mem_of_getElem? (i := 1) rfl) rfl)
              clear hF hD
              have h2 : Two w W pa pb T0 (liveW B5 caD) := A0
              have ho := Own.rows_new W 51 (size := 5) (n := 2) (cs := avCells (caL i)) rfl (by simp [maxLen])
              refine ⟨.slice (some ⟨W.heap.size, 0, none⟩) 2 2, W.alloc (Obj.cells (avCells (caL i)).toArray 51), ?_, trivial, W.heap.size, rfl, AvsAt.of_own (l := caL i) ho, h2.keep ((Upd.refl [] _).alloc _)⟩
              rw [caL_cells]
              go_simp
            · refine chain_call (.inl rfl) ⟨_, rfl⟩ (by kernel_rfl) ?_
              intro a W kst l0 h0 A0 hF hD
              have k0 : kst = 3 := Nat.le_antisymm h0 l0
              subst k0
              clear l0 h0
              have e50 : a.tmps[50]?.getD undef = .pointer (some ⟨pa, 0, none⟩) := (ev a 50).symm.trans (hD _ (Array.mem_of_getElem? (i := 0) rfl) rfl)
              have e54 : a.tmps[54]?.getD undef = .int .i64 x := (ev a 54).symm.trans (hD _ (Array.mem_of_getElem? (i := 1) rfl) rfl)
              clear hF hD
              obtain ⟨g, hv, h1, h2⟩ := A0
              have e61 : a.tmps[61]?.getD undef = _ := (ev a 61).symm.trans hv
              rw [hv] at h1
              refine ⟨_, _, by (go_simp; first | done | rfl | exact ⟨rfl, rfl⟩), ?_⟩
              refine (h2.sendA HR.out.ga x (caL i) _ h1).mono ?_
              rw [HSE.out]
              rintro e w3 ⟨rfl, h3⟩
              exact ⟨_, rfl, rfl, h3⟩
            · refine chain_is _ (.inl rfl) ⟨_, rfl⟩ (by kernel_rfl) rfl ?_
              intro a W kst l0 h0 A0 hF hD
              have k0 : kst = 4 := Nat.le_antisymm h0 l0
              subst k0
              clear l0 h0
              have e62 : a.tmps[62]?.getD undef = .int .i64 1 := (ev a 62).symm.trans (hD _ (Array.mem_of_getElem? (i := 0) rfl) rfl)
              clear hF hD
              go_simp
          intro vals W hv hA
          have v0 : vals 0 = .pointer (some ⟨pa, 0, none⟩) := hv 0 (by decide)
          have v1 : vals 1 = .slice (some q) n cap := hv 1 (by decide)
          have v2 : vals 2 = .int .i64 i := hv 2 (by decide)
          have v3 : vals 3 = .pointer (some (q.add i)) := hv 3 (by decide)
          have v4 : vals 4 = .int .i64 x := hv 4 (by decide)
          have v5 : vals 5 = .agg #[.bool true, .bool false, .int .i64 0, .int .i64 0, .string ⟨#[0, 15]⟩] := hv 5 (by decide)
          have v6 : vals 6 = .int .i64 i := hv 6 (by decide)
          have v7 : vals 7 = .int .u8 i := hv 7 (by decide)
          have v9 : vals 9 = .string (strOfNums [(i : Int)]) := hv 9 (by decide)
          have v10 : vals 10 = .agg #[.bool true, .bool false, .int .i64 0, .int .i64 34, .string (strOfNums [(i : Int)])] := hv 10 (by decide)
          have v12 : vals 12 = .int .i64 1 := hv 12 (by decide)
          have v13 : vals 13 = .int .i64 1 := hv 13 (by decide)
          clear hv
          have hA2 : Two w W pa pb T0 (liveW B5 caD) := hA
          simp only [putAll, Act.put, Nat.zero_add, Nat.reduceAdd, v0, v1, v2, v3, v4, v5, v6, v7, v9, v10, v12, v13, List.setIfInBounds_toArray, List.set_cons_zero, List.set_cons_succ]
          clear v0 v1 v2 v3 v4 v5 v6 v7 v9 v10 v12 v13
          have HA2 := Lib.hid hA2
          have g2 := cell_up HA2.out.u HQ.out
          clear hA2 hA
          go_wp2_with fail
          refine (HAL.out _).mono ?_
          rintro e w5 ⟨rfl, u5⟩
          go_wp2_with fail
          go_ret
          exact ⟨rfl, HA2.out.u.trans u5⟩
    · obtain rfl : i = n := by omega
      have HRG : Hid (∀ k, 0 ≤ ss.getD k 0 ∧ ss.getD k 0 < 65536) := fun k => by
        by_cases hk : k < i
        · have := HALL.out k hk; omega
        · rw [List.getD_eq_getElem?_getD, List.getElem?_eq_none (by have := HNL.out; omega)]; exact ⟨by decide, by decide⟩
      have HTO : Hid (toldN 20 (caP A5 B5 ss i) = caT ss i) := HT.out HRG.out
      have HR2 : Hid (Met w wr pa pb (meetN 0 (caP A5 B5 ss i)) (1000 + 42 * 20)) := ⟨HR.out.two, HR.out.ga.less (by omega), HR.out.gb.less (by omega)⟩
      clear HALL HR HT
      obtain ⟨P0', hP0⟩ : ∃ P, caP A5 B5 ss i = P := ⟨_, rfl⟩
      rw [hP0] at HTO HR2
      clear hP0
      have HPRE : Hid (∀ r, r < 20 → ∀ k, toldN r P0' ++ tell (meetN r P0').2 ((meetN r P0').1.out.2.take k) <+: caT ss i) := fun r hr k => by rw [← HTO.out]; exact told_amid _ hr
      have HLEN : Hid ((toldN 20 P0').length = i) := by show _ = _; rw [HTO.out]; simp [caT]
      clear HTO
      generalize P0' = P0 at *
      go_wp2_with fail
      go_loopg [10, 11] 20 (fun m s10 s11 wr => ∃ r : Nat, r + m = 20 ∧ s11 = .int .i64 r ∧ s10 = .int .i64 ((toldN r P0).length : Int) ∧ Met w wr pa pb (meetN r P0) (1000 + 42 * (20 - r)))
      case atStart => exact ⟨0, by omega, rfl, rfl, HR2.out⟩
      case round =>
        obtain ⟨r, hr, rfl, rfl, hm⟩ := hrel
        have HM := Lib.hid hm
        clear hm HR2
        by_cases t11 : r < 20
        · have t11' : (r : Int) < 20 := by omega
          have HQ0 : Hid (meetN (r + 1) P0 = meet1 (meetN r P0)) := rfl
          have HD0 : Hid (toldN (r + 1) P0 = toldN r P0 ++ tell (meetN r P0).2 (meetN r P0).1.out.2) := rfl
          have HPR := Lib.hid (HPRE.out r t11)
          have HM' : Hid (Met w wr pa pb (meetN r P0) (1000 + 42 * (20 - (r + 1)) + 42)) := by
            have := HM.out
            rw [show 20 - r = 20 - (r + 1) + 1 by omega] at this
            exact ⟨this.two, this.ga.ofEq (by omega), this.gb.ofEq (by omega)⟩
          generalize meetN r P0 = q at *
          obtain ⟨a, b⟩ := q
          have HQ' : Hid (meetN (r + 1) P0 = (feed a.out.1 (feed b a.out.2).out.2, (feed b a.out.2).out.1)) := HQ0.out
          have HD' : Hid (toldN (r + 1) P0 = toldN r P0 ++ tell b a.out.2) := HD0.out
          have HPR' : Hid (∀ k, toldN r P0 ++ tell b (a.out.2.take k) <+: caT ss i) := HPR.out
          obtain ⟨D, hD⟩ : ∃ D, toldN r P0 = D := ⟨_, rfl⟩
          rw [hD] at HD' HPR' HD0 ⊢
          have HDD := Lib.hid hD
          obtain ⟨d0, hd0⟩ : ∃ d, D.length = d := ⟨_, rfl⟩
          have HD00 := Lib.hid hd0
          rw [hd0]
          clear HPR HD0 HQ0 HM hD hd0
          have HOA := Lib.hid (HM'.out.two.outA HM'.out.ga)
          have hlen := HM'.out.two.outLen
          have HSZ := Lib.hid (Tn.out_size HM'.out.ga (TunAt.ok HM'.out.two.atA))
          have HGA := Lib.hid HM'.out.ga.out
          dsimp only at HOA hlen HSZ HGA
          generalize a.out.2 = x at *
          generalize a.out.1 = a1 at *
          go_wp2_with fail
          refine HOA.out.mono ?_
          rintro e w4 ⟨vx, rfl, h4⟩
          obtain ⟨xo, xc, rfl⟩ := h4.shape
          have H4 := Lib.hid h4
          obtain ⟨nx, hnx⟩ : ∃ nx, x.length = nx := ⟨_, rfl⟩
          have HNX := Lib.hid hnx
          rw [hnx] at hlen H4
          rw [hnx]
          clear h4 hnx HOA
          have HTL : Hid ((tell b (x.take 0)).length = 0) := rfl
          go_wp2_with fail
          go_loopg [10, 13] nx (fun m s10 s13 wr8 => ∃ (k d : Nat), k + m = nx ∧ s13 = .int .i64 k ∧ s10 = .int .i64 d ∧ d0 + (tell b (x.take k)).length = d ∧ d ≤ i ∧ TwoL w wr8 pa pb a1 (feed b (x.take k)) (.slice xo nx xc) x ∧ (feed b (x.take k)).Good (1000 + 42 * (20 - (r + 1)) + (nx - k)))
          case atStart => exact ⟨0, d0, by omega, rfl, rfl, rfl, by
            have h := (HPR'.out 0).length_le
            rw [List.length_append, HD00.out] at h
            simp [caT] at h
            omega, by simpa [feed] using H4.out, by simpa [feed] using HM'.out.gb.less (by omega)⟩
          case round =>
            obtain ⟨k, d, hk, rfl, rfl, hd, hdi, hk1, hk2⟩ := hrel
            have HDE := Lib.hid hd
            clear hd
            by_cases t8 : k < nx
            · obtain ⟨y, hy⟩ : ∃ y, x[k]? = some y := ⟨_, List.getElem?_eq_getElem (by have := HNX.out; omega)⟩
              obtain ⟨g, off, cap', hv, hle, hc⟩ := hk1.text k hy
              injection hv with hv1 hv2 hv3
              subst hv1 hv3
              have hsz := HSZ.out y (List.mem_of_getElem? hy)
              have HTB := Lib.hid (hk1.tellB y (by omega) hk2)
              have HG : Hid (((feed b (x.take k)).take y).1.Good (1000 + 42 * (20 - (r + 1)) + (nx - (k + 1)))) := (hk2.ofEq (by omega)).take y
              have HF : Hid (feed b (x.take (k + 1)) = ((feed b (x.take k)).take y).1) := by show _ = _; rw [← feed_snoc, List.take_add_one, hy]; rfl
              have HTE : Hid (tell b (x.take (k + 1)) = tell b (x.take k) ++ ((feed b (x.take k)).take y).2) := by show _ = _; rw [← tell_snoc, List.take_add_one, hy]; rfl
              have HMS : Hid (D ++ tell b (x.take k) ++ ((feed b (x.take k)).take y).2 <+: caT ss i) := by
                have h := HPR'.out (k + 1)
                rw [HTE.out, ← List.append_assoc] at h
                exact h
              have HLD : Hid ((D ++ tell b (x.take k)).length = d) := by show _ = _; rw [List.length_append, HD00.out]; exact HDE.out
              have hle : nx ≤ xc := by have := HNX.out; omega
              clear hk1 hk2 hv2 hsz hy
              generalize ((feed b (x.take k)).take y).1 = b2 at *
              generalize ((feed b (x.take k)).take y).2 = ms at *
              generalize D ++ tell b (x.take k) = DD at *
              go_wp2_with fail
              refine HTB.out.mono ?_
              rintro e w5 ⟨⟨u, rfl, hto⟩, h5⟩
              obtain ⟨nm, hnm⟩ : ∃ nm, ms.length = nm := ⟨_, rfl⟩
              have HNM := Lib.hid hnm
              obtain ⟨uo, rfl⟩ : ∃ uo, u = .slice uo nm nm := by
                rcases hto with ⟨h1, h2⟩ | ⟨g, m, v, ol, h1, h2, -⟩
                · rw [h1] at hnm; subst hnm; exact ⟨_, h2⟩
                · rw [h1] at hnm; subst hnm; exact ⟨_, h2⟩
              have H5 := Lib.hid h5
              have HTO := Lib.hid hto
              have HND : Hid (d + nm ≤ i) := by
                have h := HMS.out.length_le
                rw [List.length_append, HLD.out, HNM.out] at h
                simp [caT] at h
                exact h
              have hnm1 : nm ≤ 1 := by
                rcases hto with ⟨h1, h2⟩ | ⟨g, m, v, ol, h1, h2, -⟩
                · rw [h1] at hnm; simp at hnm; omega
                · rw [h1] at hnm; simp at hnm; omega
              clear h5 hto hnm HTB
              go_wp2_with fail
              go_loopg [10, 15] nm (fun m s10 s15 wr9 => ∃ (j : Nat), j + m = nm ∧ s15 = .int .i64 j ∧ s10 = .int .i64 (((d + j : Nat)) : Int) ∧ TwoL w wr9 pa pb a1 b2 (.slice (some ⟨g, off, none⟩) nx xc) x ∧ (j < nm → ToldAt wr9 (.slice uo nm nm) ms))
              case atStart => exact ⟨0, by omega, rfl, rfl, H5.out, fun _ => HTO.out⟩
              case round =>
                obtain ⟨j, hj, rfl, rfl, hj1, hj2⟩ := hrel
                have HJ1 := Lib.hid hj1
                have HJ2 := Lib.hid hj2
                clear hj1 hj2 H5 HTO
                by_cases t9 : j < nm
                · obtain ⟨q1, q2⟩ | ⟨gm, m, mv, mo, q1, q2, q3, q4⟩ := HJ2.out t9
                  · exfalso
                    have := HNM.out
                    rw [q1] at this
                    simp at this
                    omega
                  injection q2 with z1 z2 z3
                  subst z1 z2
                  obtain rfl : j = 0 := by omega
                  have hmm := HMS.out
                  rw [q1] at hmm
                  obtain ⟨hdd, hme⟩ := told_at hmm
                  rw [HLD.out] at hdd hme
                  obtain ⟨sx, hsx⟩ : ∃ x, ss[d]? = some x := ⟨_, List.getElem?_eq_getElem (by have := HNL.out; omega)⟩
                  have hgd : ss.getD d 0 = sx := by rw [List.getD_eq_getElem?_getD, hsx]; rfl
                  rw [hgd] at hme
                  subst hme
                  obtain ⟨ao', cap', hv, hle9, hmx, hcl⟩ := HL.out
                  injection hv with hv1 hv2 hv3
                  subst hv1 hv3
                  obtain ⟨q, rfl, hq⟩ := hcl d sx hsx
                  have hle2 : i ≤ cap := by have := HNL.out; omega
                  obtain ⟨g2, o2, c2, rfl, -, hc2, -, hcs⟩ := q4.form (show 0 < (caL d).length from Nat.zero_lt_succ _)
                  have C0 := Lib.hid (q3.cell 0)
                  have C1 := Lib.hid (q3.cell 1)
                  have C4 := Lib.hid (q3.cell 4)
                  have C9 := Lib.hid (hcs 9 (.string (strOfNums [(d : Int)])) (by rw [caL_cells]; rfl))
                  have CS := Lib.hid (cell_up HJ1.out.u hq)
                  have hlc : (caL d).length = 2 := rfl
                  rw [hlc] at C4 hc2
                  simp at C0 C1 C4
                  have hk8 : True → IntKind.u8.wrap (d : Int) = d := fun _ => by
                    have : (d : Int) % 256 = d := by omega
                    simp [IntKind.wrap, IntKind.bits, IntKind.signed, this]
                  have hnd : ¬ (i : Int) ≤ (d : Int) := by omega
                  clear q1 q3 q4 hmm hsx hgd hcl hv2 hle9 hmx hq hcs hlc
                  simp only [Nat.add_zero]
                  rw [show ((0 : Nat) : Int) = 0 from rfl]
                  go_wp2_with fail
                  refine wp_region_chain [some (.int .i64 d), some (.slice (some q) i cap), some (.int .i64 i), some (.bool false), some (.bool false), some (.slice (some ⟨gm, 0, none⟩) 1 1), some (.int .i64 0), some (.pointer (some ⟨gm, 0, none⟩)), some (.pointer (some ⟨gm, 1, none⟩)), some (.int .i64 sx), some (.slice (some q) i cap), some (.int .i64 d), some (.pointer (some (q.add d))), some (.int .i64 sx), some (.bool false), some (.bool false), some (.bool false), some (.slice (some ⟨gm, 0, none⟩) 1 1), some (.int .i64 0), some (.pointer (some ⟨gm, 0, none⟩)), some (.pointer (some ⟨gm, 4, none⟩)), some (.slice (some ⟨g2, o2, none⟩) 2 c2), some (.int .i64 2), some (.bool false), some (.bool false), some (.bool false), some (.slice (some ⟨gm, 0, none⟩) 1 1), some (.int .i64 0), some (.pointer (some ⟨gm, 0, none⟩)), some (.pointer (some ⟨gm, 4, none⟩)), some (.slice (some ⟨g2, o2, none⟩) 2 c2), some (.pointer (some ⟨g2, o2 + 5, none⟩)), some (.pointer (some ⟨g2, o2 + 9, none⟩)), some (.string (strOfNums [(d : Int)])), some (.int .i64 d), some (.int .u8 d), none, some (.string (strOfNums [(d : Int)])), some (.bool false), some (.bool false), some (.bool false), some (.slice (some ⟨gm, 0, none⟩) 1 1), some (.int .i64 0), some (.pointer (some ⟨gm, 0, none⟩)), some (.pointer (some ⟨gm, 0, none⟩)), some (.int .i64 9), some (.bool false), some (.bool false)] [36,37] (cbA wr d) [(0, 0), (0, 0), (0, 0), (0, 0), (0, 0), (0, 0), (0, 0), (0, 0), (0, 0), (0, 0), (0, 0), (0, 0), (0, 0), (0, 0), (0, 0), (0, 0), (0, 0), (0, 0), (0, 0), (0, 0), (0, 0), (0, 0), (0, 0), (0, 0), (0, 0), (0, 0), (0, 2), (0, 2), (0, 2), (0, 2), (0, 2), (0, 2), (0, 2), (0, 2), (0, 0), (0, 0), (0, 0), (1, 1), (2, 2), (2, 2), (2, 2), (2, 2), (2, 2), (2, 2), (2, 2), (2, 2), (2, 2), (2, 2)] (by kernel_rfl) (by kernel_rfl) (by kernel_rfl) (by kernel_rfl) (by kernel_rfl) (by kernel_rfl) (((Upd.refl [] _).drew)) ?_ ?_
                  · refine StepsC.cons ?_ (StepsC.cons ?_ (StepsC.cons ?_ (StepsC.cons ?_ (StepsC.cons ?_ (StepsC.cons ?_ (StepsC.cons ?_ (StepsC.cons ?_ (StepsC.cons ?_ (StepsC.cons ?_ (StepsC.cons ?_ (StepsC.cons ?_ (StepsC.cons ?_ (StepsC.cons ?_ (StepsC.cons ?_ (StepsC.cons ?_ (StepsC.cons ?_ (StepsC.cons ?_ (StepsC.cons ?_ (StepsC.cons ?_ (StepsC.cons ?_ (StepsC.cons ?_ (StepsC.cons ?_ (StepsC.cons ?_ (StepsC.cons ?_ (StepsC.cons ?_ (StepsC.cons ?_ (StepsC.cons ?_ (StepsC.cons ?_ (StepsC.cons ?_ (StepsC.cons ?_ (StepsC.cons ?_ (StepsC.cons ?_ (StepsC.cons ?_ (StepsC.cons ?_ (StepsC.cons ?_ (StepsC.cons ?_ (StepsC.cons ?_ (StepsC.cons ?_ (StepsC.cons ?_ (StepsC.cons ?_ (StepsC.cons ?_ (StepsC.cons ?_ (StepsC.cons ?_ (StepsC.cons ?_ (StepsC.cons ?_ (StepsC.cons ?_ (StepsC.cons ?_ StepsC.nil)))))))))))))))))))))))))))))))))))))))))))))))
                    · refine chain_is _ (.inl rfl) ⟨_, rfl⟩ (by kernel_rfl) rfl ?_
                      intro a W kst l0 h0 A0 hF hD
                      have k0 : kst = 0 := Nat.le_antisymm h0 l0
                      subst k0
                      clear l0 h0
                      have e10 : a.tmps[10]?.getD undef = _ := (ev a 10).symm.trans (hF 10 (by kernel_rfl))
                      clear hF hD
                      go_simp
                    · refine chain_is _ (.inl rfl) ⟨_, rfl⟩ (by kernel_rfl) rfl ?_
                      intro a W kst l0 h0 A0 hF hD
                      have k0 : kst = 0 := Nat.le_antisymm h0 l0
                      subst k0
                      clear l0 h0
                      have e1 : a.tmps[1]?.getD undef = _ := (ev a 1).symm.trans (hF 1 (by kernel_rfl))
                      clear hF hD
                      go_simp
                    · refine chain_is _ (.inl rfl) ⟨_, rfl⟩ (by kernel_rfl) rfl ?_
                      intro a W kst l0 h0 A0 hF hD
                      have k0 : kst = 0 := Nat.le_antisymm h0 l0
                      subst k0
                      clear l0 h0
                      have e110 : a.tmps[110]?.getD undef = .slice (some q) i cap := (ev a 110).symm.trans (hD _ (Array.mem_of_getElem? (i := 0) rfl) rfl)
                      clear hF hD
                      go_simp
                    · refine chain_is _ (.inl rfl) ⟨_, rfl⟩ (by kernel_rfl) rfl ?_
                      intro a W kst l0 h0 A0 hF hD
                      have k0 : kst = 0 := Nat.le_antisymm h0 l0
                      subst k0
                      clear l0 h0
                      have e109 : a.tmps[109]?.getD undef = .int .i64 d := (ev a 109).symm.trans (hD _ (Array.mem_of_getElem? (i := 0) rfl) rfl)
                      have e111 : a.tmps[111]?.getD undef = .int .i64 i := (ev a 111).symm.trans (hD _ (Array.mem_of_getElem? (i := 1) rfl) rfl)
                      clear hF hD
                      go_simp
                      done
                    · refine chain_is _ (.inl rfl) ⟨_, rfl⟩ (by kernel_rfl) rfl ?_
                      intro a W kst l0 h0 A0 hF hD
                      have k0 : kst = 0 := Nat.le_antisymm h0 l0
                      subst k0
                      clear l0 h0
                      have e112 : a.tmps[112]?.getD undef = .bool false := (ev a 112).symm.trans (hD _ (Array.mem_of_getElem? (i := 0) rfl) rfl)
                      clear hF hD
                      go_simp
                    · refine chain_is _ (.inr ⟨_, _, _, rfl, Array.mem_of_getElem? (i := 0) rfl, rfl, rfl, fun _ h => h⟩) ⟨_, rfl⟩ (by kernel_rfl) rfl ?_
                      intro a W kst l0 h0 A0 hF hD
                      have k0 : kst = 0 := Nat.le_antisymm h0 l0
                      subst k0
                      clear l0 h0
                      have e14 : a.tmps[14]?.getD undef = _ := (ev a 14).symm.trans (hF 14 (by kernel_rfl))
                      clear hF hD
                      go_simp
                    · refine chain_is _ (.inr ⟨_, _, _, rfl, Array.mem_of_getElem? (i := 0) rfl, rfl, rfl, fun _ h => h⟩) ⟨_, rfl⟩ (by kernel_rfl) rfl ?_
                      intro a W kst l0 h0 A0 hF hD
                      have k0 : kst = 0 := Nat.le_antisymm h0 l0
                      subst k0
                      clear l0 h0
                      have e15 : a.tmps[15]?.getD undef = _ := (ev a 15).symm.trans (hF 15 (by kernel_rfl))
                      clear hF hD
                      go_simp
                    · refine chain_is _ (.inr ⟨_, _, _, rfl, Array.mem_of_getElem? (i := 2) rfl, rfl, rfl, fun _ h => h⟩) ⟨_, rfl⟩ (by kernel_rfl) rfl ?_
                      intro a W kst l0 h0 A0 hF hD
                      have k0 : kst = 0 := Nat.le_antisymm h0 l0
                      subst k0
                      clear l0 h0
                      have e114 : a.tmps[114]?.getD undef = .slice (some ⟨gm, 0, none⟩) 1 1 := (ev a 114).symm.trans (hD _ (Array.mem_of_getElem? (i := 0) rfl) rfl)
                      have e115 : a.tmps[115]?.getD undef = .int .i64 0 := (ev a 115).symm.trans (hD _ (Array.mem_of_getElem? (i := 1) rfl) rfl)
                      clear hF hD
                      go_simp
                    · refine chain_is _ (.inr ⟨_, _, _, rfl, Array.mem_of_getElem? (i := 1) rfl, rfl, rfl, fun _ h => h⟩) ⟨_, rfl⟩ (by kernel_rfl) rfl ?_
                      intro a W kst l0 h0 A0 hF hD
                      have k0 : kst = 0 := Nat.le_antisymm h0 l0
                      subst k0
                      clear l0 h0
                      have e116 : a.tmps[116]?.getD undef = .pointer (some ⟨gm, 0, none⟩) := (ev a 116).symm.trans (hD _ (Array.mem_of_getElem? (i := 0) rfl) rfl)
                      clear hF hD
                      go_simp
                    · refine chain_is _ (.inr ⟨_, _, _, rfl, Array.mem_of_getElem? (i := 1) rfl, rfl, rfl, fun _ h => h⟩) ⟨_, rfl⟩ (by kernel_rfl) rfl ?_
                      intro a W kst l0 h0 A0 hF hD
                      have k0 : kst = 0 := Nat.le_antisymm h0 l0
                      subst k0
                      clear l0 h0
                      have e117 : a.tmps[117]?.getD undef = .pointer (some ⟨gm, 1, none⟩) := (ev a 117).symm.trans (hD _ (Array.mem_of_getElem? (i := 0) rfl) rfl)
                      clear hF hD
                      have g2 := cell_up (cbA_u A0) C1.out
                      go_simp
                    · refine chain_is _ (.inr ⟨_, _, _, rfl, Array.mem_of_getElem? (i := 0) rfl, rfl, rfl, fun _ h => h⟩) ⟨_, rfl⟩ (by kernel_rfl) rfl ?_
                      intro a W kst l0 h0 A0 hF hD
                      have k0 : kst = 0 := Nat.le_antisymm h0 l0
                      subst k0
                      clear l0 h0
                      have e1 : a.tmps[1]?.getD undef = _ := (ev a 1).symm.trans (hF 1 (by kernel_rfl))
                      clear hF hD
                      go_simp
                    · refine chain_is _ (.inr ⟨_, _, _, rfl, Array.mem_of_getElem? (i := 0) rfl, rfl, rfl, fun _ h => h⟩) ⟨_, rfl⟩ (by kernel_rfl) rfl ?_
                      intro a W kst l0 h0 A0 hF hD
                      have k0 : kst = 0 := Nat.le_antisymm h0 l0
                      subst k0
                      clear l0 h0
                      have e10 : a.tmps[10]?.getD undef = _ := (ev a 10).symm.trans (hF 10 (by kernel_rfl))
                      clear hF hD
                      go_simp
                    · refine chain_is _ (.inr ⟨_, _, _, rfl, Array.mem_of_getElem? (i := 2) rfl, rfl, rfl, fun _ h => h⟩) ⟨_, rfl⟩ (by kernel_rfl) rfl ?_
                      intro a W kst l0 h0 A0 hF hD
                      have k0 : kst = 0 := Nat.le_antisymm h0 l0
                      subst k0
                      clear l0 h0
                      have e119 : a.tmps[119]?.getD undef = .slice (some q) i cap := (ev a 119).symm.trans (hD _ (Array.mem_of_getElem? (i := 0) rfl) rfl)
                      have e120 : a.tmps[120]?.getD undef = .int .i64 d := (ev a 120).symm.trans (hD _ (Array.mem_of_getElem? (i := 1) rfl) rfl)
                      clear hF hD
                      go_simp
                    · refine chain_is _ (.inr ⟨_, _, _, rfl, Array.mem_of_getElem? (i := 1) rfl, rfl, rfl, fun _ h => h⟩) ⟨_, rfl⟩ (by kernel_rfl) rfl ?_
                      intro a W kst l0 h0 A0 hF hD
                      have k0 : kst = 0 := Nat.le_antisymm h0 l0
                      subst k0
                      clear l0 h0
                      have e121 : a.tmps[121]?.getD undef = .pointer (some (q.add d)) := (ev a 121).symm.trans (hD _ (Array.mem_of_getElem? (i := 0) rfl) rfl)
                      clear hF hD
                      have g2 := cell_up (cbA_u A0) CS.out
                      go_simp
                    · refine chain_is _ (.inr ⟨_, _, _, rfl, Array.mem_of_getElem? (i := 2) rfl, rfl, rfl, fun _ h => h⟩) ⟨_, rfl⟩ (by kernel_rfl) rfl ?_
                      intro a W kst l0 h0 A0 hF hD
                      have k0 : kst = 0 := Nat.le_antisymm h0 l0
                      subst k0
                      clear l0 h0
                      have e118 : a.tmps[118]?.getD undef = .int .i64 sx := (ev a 118).symm.trans (hD _ (Array.mem_of_getElem? (i := 0) rfl) rfl)
                      have e122 : a.tmps[122]?.getD undef = .int .i64 sx := (ev a 122).symm.trans (hD _ (Array.mem_of_getElem? (i := 1) rfl) rfl)
                      clear hF hD
                      go_simp
                    · refine chain_is _ (.inl rfl) ⟨_, rfl⟩ (by kernel_rfl) rfl ?_
                      intro a W kst l0 h0 A0 hF hD
                      have k0 : kst = 0 := Nat.le_antisymm h0 l0
                      subst k0
                      clear l0 h0
                      have e113 : a.tmps[113]?.getD undef = .bool false := (ev a 113).symm.trans (hD _ (Array.mem_of_getElem? (i := 0) rfl) rfl)
                      have e123 : a.tmps[123]?.getD undef = .bool false := (ev a 123).symm.trans (hD _ (Array.mem_of_getElem? (i := 1) rfl) rfl)
                      clear hF hD
                      go_simp
                    · refine chain_is _ (.inl rfl) ⟨_, rfl⟩ (by kernel_rfl) rfl ?_
                      intro a W kst l0 h0 A0 hF hD
                      have k0 : kst = 0 := Nat.le_antisymm h0 l0
                      subst k0
                      clear l0 h0
                      have e124 : a.tmps[124]?.getD undef = .bool false := (ev a 124).symm.trans (hD _ (Array.mem_of_getElem? (i := 0) rfl) rfl)
                      clear hF hD
                      go_simp
                    · refine chain_is _ (.inr ⟨_, _, _, rfl, Array.mem_of_getElem? (i := 0) rfl, rfl, rfl, fun _ h => h⟩) ⟨_, rfl⟩ (by kernel_rfl) rfl ?_
                      intro a W kst l0 h0 A0 hF hD
                      have k0 : kst = 0 := Nat.le_antisymm h0 l0
                      subst k0
                      clear l0 h0
                      have e14 : a.tmps[14]?.getD undef = _ := (ev a 14).symm.trans (hF 14 (by kernel_rfl))
                      clear hF hD
                      go_simp
                    · refine chain_is _ (.inr ⟨_, _, _, rfl, Array.mem_of_getElem? (i := 0) rfl, rfl, rfl, fun _ h => h⟩) ⟨_, rfl⟩ (by kernel_rfl) rfl ?_
                      intro a W kst l0 h0 A0 hF hD
                      have k0 : kst = 0 := Nat.le_antisymm h0 l0
                      subst k0
                      clear l0 h0
                      have e15 : a.tmps[15]?.getD undef = _ := (ev a 15).symm.trans (hF 15 (by kernel_rfl))
                      clear hF hD
                      go_simp
                    · refine chain_is _ (.inr ⟨_, _, _, rfl, Array.mem_of_getElem? (i := 2) rfl, rfl, rfl, fun _ h => h⟩) ⟨_, rfl⟩ (by kernel_rfl) rfl ?_
                      intro a W kst l0 h0 A0 hF hD
                      have k0 : kst = 0 := Nat.le_antisymm h0 l0
                      subst k0
                      clear l0 h0
                      have e126 : a.tmps[126]?.getD undef = .slice (some ⟨gm, 0, none⟩) 1 1 := (ev a 126).symm.trans (hD _ (Array.mem_of_getElem? (i := 0) rfl) rfl)
                      have e127 : a.tmps[127]?.getD undef = .int .i64 0 := (ev a 127).symm.trans (hD _ (Array.mem_of_getElem? (i := 1) rfl) rfl)
                      clear hF hD
                      go_simp
                    · refine chain_is _ (.inr ⟨_, _, _, rfl, Array.mem_of_getElem? (i := 1) rfl, rfl, rfl, fun _ h => h⟩) ⟨_, rfl⟩ (by kernel_rfl) rfl ?_
                      intro a W kst l0 h0 A0 hF hD
                      have k0 : kst = 0 := Nat.le_antisymm h0 l0
                      subst k0
                      clear l0 h0
                      have e128 : a.tmps[128]?.getD undef = .pointer (some ⟨gm, 0, none⟩) := (ev a 128).symm.trans (hD _ (Array.mem_of_getElem? (i := 0) rfl) rfl)
                      clear hF hD
                      go_simp
                    · refine chain_is _ (.inr ⟨_, _, _, rfl, Array.mem_of_getElem? (i := 1) rfl, rfl, rfl, fun _ h => h⟩) ⟨_, rfl⟩ (by kernel_rfl) rfl ?_
                      intro a W kst l0 h0 A0 hF hD
                      have k0 : kst = 0 := Nat.le_antisymm h0 l0
                      subst k0
                      clear l0 h0
                      have e129 : a.tmps[129]?.getD undef = .pointer (some ⟨gm, 4, none⟩) := (ev a 129).symm.trans (hD _ (Array.mem_of_getElem? (i := 0) rfl) rfl)
                      clear hF hD
                      have g2 := cell_up (cbA_u A0) C4.out
                      go_simp
                    · refine chain_is _ (.inr ⟨_, _, _, rfl, Array.mem_of_getElem? (i := 1) rfl, rfl, rfl, fun _ h => h⟩) ⟨_, rfl⟩ (by kernel_rfl) rfl ?_
                      intro a W kst l0 h0 A0 hF hD
                      have k0 : kst = 0 := Nat.le_antisymm h0 l0
                      subst k0
                      clear l0 h0
                      have e130 : a.tmps[130]?.getD undef = .slice (some ⟨g2, o2, none⟩) 2 c2 := (ev a 130).symm.trans (hD _ (Array.mem_of_getElem? (i := 0) rfl) rfl)
                      clear hF hD
                      go_simp
                    · refine chain_is _ (.inr ⟨_, _, _, rfl, Array.mem_of_getElem? (i := 1) rfl, rfl, rfl, fun _ h => h⟩) ⟨_, rfl⟩ (by kernel_rfl) rfl ?_
                      intro a W kst l0 h0 A0 hF hD
                      have k0 : kst = 0 := Nat.le_antisymm h0 l0
                      subst k0
                      clear l0 h0
                      have e131 : a.tmps[131]?.getD undef = .int .i64 2 := (ev a 131).symm.trans (hD _ (Array.mem_of_getElem? (i := 0) rfl) rfl)
                      clear hF hD
                      go_simp
                    · refine chain_is _ (.inl rfl) ⟨_, rfl⟩ (by kernel_rfl) rfl ?_
                      intro a W kst l0 h0 A0 hF hD
                      have k0 : kst = 0 := Nat.le_antisymm h0 l0
                      subst k0
                      clear l0 h0
                      have e125 : a.tmps[125]?.getD undef = .bool false := (ev a 125).symm.trans (hD _ (Array.mem_of_getElem? (i := 0) rfl) rfl)
                      have e132 : a.tmps[132]?.getD undef = .bool false := (ev a 132).symm.trans (hD _ (Array.mem_of_getElem? (i := 1) rfl) rfl)
                      clear hF hD
                      go_simp
                    · refine chain_is _ (.inl rfl) ⟨_, rfl⟩ (by kernel_rfl) rfl ?_
                      intro a W kst l0 h0 A0 hF hD
                      have k0 : kst = 0 := Nat.le_antisymm h0 l0
                      subst k0
                      clear l0 h0
                      have e133 : a.tmps[133]?.getD undef = .bool false := (ev a 133).symm.trans (hD _ (Array.mem_of_getElem? (i := 0) rfl) rfl)
                      clear hF hD
                      go_simp
                    · refine chain_is _ (.inr ⟨_, _, _, rfl, Array.mem_of_getElem? (i := 0) rfl, rfl, rfl, fun _ h => h⟩) ⟨_, rfl⟩ (by kernel_rfl) rfl ?_
                      intro a W kst l0 h0 A0 hF hD
                      have e14 : a.tmps[14]?.getD undef = _ := (ev a 14).symm.trans (hF 14 (by kernel_rfl))
                      clear hF hD
                      go_simp
                    · refine chain_is _ (.inr ⟨_, _, _, rfl, Array.mem_of_getElem? (i := 0) rfl, rfl, rfl, fun _ h => h⟩) ⟨_, rfl⟩ (by kernel_rfl) rfl ?_
                      intro a W kst l0 h0 A0 hF hD
                      have e15 : a.tmps[15]?.getD undef = _ := (ev a 15).symm.trans (hF 15 (by kernel_rfl))
                      clear hF hD
                      go_simp
                    · refine chain_is _ (.inr ⟨_, _, _, rfl, Array.mem_of_getElem? (i := 2) rfl, rfl, rfl, fun _ h => h⟩) ⟨_, rfl⟩ (by kernel_rfl) rfl ?_
                      intro a W kst l0 h0 A0 hF hD
                      have e135 : a.tmps[135]?.getD undef = .slice (some ⟨gm, 0, none⟩) 1 1 := (ev a 135).symm.trans (hD _ (Array.mem_of_getElem? (i := 0) rfl) rfl)
                      have e136 : a.tmps[136]?.getD undef = .int .i64 0 := (ev a 136).symm.trans (hD _ (Array.mem_of_getElem? (i := 1) rfl) rfl)
                      clear hF hD
                      go_simp
                    · refine chain_is _ (.inr ⟨_, _, _, rfl, Array.mem_of_getElem? (i := 1) rfl, rfl, rfl, fun _ h => h⟩) ⟨_, rfl⟩ (by kernel_rfl) rfl ?_
                      intro a W kst l0 h0 A0 hF hD
                      have e137 : a.tmps[137]?.getD undef = .pointer (some ⟨gm, 0, none⟩) := (ev a 137).symm.trans (hD _ (Array.mem_of_getElem? (i := 0) rfl) rfl)
                      clear hF hD
                      go_simp
                    · refine chain_is _ (.inr ⟨_, _, _, rfl, Array.mem_of_getElem? (i := 1) rfl, rfl, rfl, fun _ h => h⟩) ⟨_, rfl⟩ (by kernel_rfl) rfl ?_
                      intro a W kst l0 h0 A0 hF hD
                      have e138 : a.tmps[138]?.getD undef = .pointer (some ⟨gm, 4, none⟩) := (ev a 138).symm.trans (hD _ (Array.mem_of_getElem? (i := 0) rfl) rfl)
                      clear hF hD
                      have g2 := cell_up (cbA_u A0) C4.out
                      go_simp
                    · refine chain_is _ (.inr ⟨_, _, _, rfl, Array.mem_of_getElem? (i := 1) rfl, rfl, rfl, fun _ h => h⟩) ⟨_, rfl⟩ (by kernel_rfl) rfl ?_
                      intro a W kst l0 h0 A0 hF hD
                      have e139 : a.tmps[139]?.getD undef = .slice (some ⟨g2, o2, none⟩) 2 c2 := (ev a 139).symm.trans (hD _ (Array.mem_of_getElem? (i := 0) rfl) rfl)
                      clear hF hD
                      go_simp
                    · refine chain_is _ (.inr ⟨_, _, _, rfl, Array.mem_of_getElem? (i := 1) rfl, rfl, rfl, fun _ h => h⟩) ⟨_, rfl⟩ (by kernel_rfl) rfl ?_
                      intro a W kst l0 h0 A0 hF hD
                      have e140 : a.tmps[140]?.getD undef = .pointer (some ⟨g2, o2 + 5, none⟩) := (ev a 140).symm.trans (hD _ (Array.mem_of_getElem? (i := 0) rfl) rfl)
                      clear hF hD
                      go_simp
                    · refine chain_is _ (.inr ⟨_, _, _, rfl, Array.mem_of_getElem? (i := 1) rfl, rfl, rfl, fun _ h => h⟩) ⟨_, rfl⟩ (by kernel_rfl) rfl ?_
                      intro a W kst l0 h0 A0 hF hD
                      have e141 : a.tmps[141]?.getD undef = .pointer (some ⟨g2, o2 + 9, none⟩) := (ev a 141).symm.trans (hD _ (Array.mem_of_getElem? (i := 0) rfl) rfl)
                      clear hF hD
                      have g2 := cell_up (cbA_u A0) C9.out
                      go_simp
                    · refine chain_is _ (.inr ⟨_, _, _, rfl, Array.mem_of_getElem? (i := 0) rfl, rfl, rfl, fun _ h => h⟩) ⟨_, rfl⟩ (by kernel_rfl) rfl ?_
                      intro a W kst l0 h0 A0 hF hD
                      have k0 : kst = 0 := Nat.le_antisymm h0 l0
                      subst k0
                      clear l0 h0
                      have e10 : a.tmps[10]?.getD undef = _ := (ev a 10).symm.trans (hF 10 (by kernel_rfl))
                      clear hF hD
                      go_simp
                    · refine chain_is _ (.inr ⟨_, _, _, rfl, Array.mem_of_getElem? (i := 1) rfl, rfl, rfl, fun _ h => h⟩) ⟨_, rfl⟩ (by kernel_rfl) rfl ?_
                      intro a W kst l0 h0 A0 hF hD
                      have k0 : kst = 0 := Nat.le_antisymm h0 l0
                      subst k0
                      clear l0 h0
                      have e143 : a.tmps[143]?.getD undef = .int .i64 d := (ev a 143).symm.trans (hD _ (Array.mem_of_getElem? (i := 0) rfl) rfl)
                      clear hF hD
                      have := hk8 trivial
                      go_simp
                    · refine chain_run (.inr ⟨_, _, _, rfl, Array.mem_of_getElem? (i := 1) rfl, rfl, rfl, fun _ h => h⟩) ⟨_, rfl⟩ (by kernel_rfl) ?_
                      intro a W kst l0 h0 A0 hF hD
                      have k0 : kst = 0 := Nat.le_antisymm h0 l0
                      subst k0
                      clear l0 h0
                      have e144 : a.tmps[144]?.getD undef = .int .u8 d := (ev a 144).symm.trans (hD _ (Array.mem_of_getElem? (i := 0) rfl) rfl)
                      clear hF hD
                      have hu : Upd [] wr W := A0
                      refine ⟨.slice (some ⟨W.heap.size, 0, none⟩) 1 1, W.alloc (Obj.cells #[.int .u8 d] 5), by (go_simp; first | done | rfl), trivial, W.heap.size, rfl, Blk.new _ _ _, hu.alloc _⟩
                    · refine chain_run (.inr ⟨_, _, _, rfl, Array.mem_of_getElem? (i := 1) rfl, rfl, rfl, fun _ h => h⟩) ⟨_, rfl⟩ (by kernel_rfl) ?_
                      intro a W kst l0 h0 A0 hF hD
                      have k0 : kst = 1 := Nat.le_antisymm h0 l0
                      subst k0
                      clear l0 h0
                      clear hF hD
                      obtain ⟨g9, hv, h1, h2⟩ := A0
                      have e145 : a.tmps[145]?.getD undef = _ := (ev a 145).symm.trans hv
                      have hcv := str1 (P := Tryz.prog) (dst := 9) Tryz.underlying52 Tryz.underlying5 Tryz.underlying9 h1
                      exact ⟨_, W, by (go_simp; first | done | rfl), rfl, h2⟩
                    · refine chain_is _ (.inr ⟨_, _, _, rfl, Array.mem_of_getElem? (i := 2) rfl, rfl, rfl, fun _ h => h⟩) ⟨_, rfl⟩ (by kernel_rfl) rfl ?_
                      intro a W kst l0 h0 A0 hF hD
                      have k0 : kst = 2 := Nat.le_antisymm h0 l0
                      subst k0
                      clear l0 h0
                      have e142 : a.tmps[142]?.getD undef = .string (strOfNums [(d : Int)]) := (ev a 142).symm.trans (hD _ (Array.mem_of_getElem? (i := 0) rfl) rfl)
                      have e146 : a.tmps[146]?.getD undef = .string (strOfNums [(d : Int)]) := (ev a 146).symm.trans (hD _ (Array.mem_of_getElem? (i := 1) rfl) rfl)
                      clear hF hD
                      go_simp
                    · refine chain_is _ (.inl rfl) ⟨_, rfl⟩ (by kernel_rfl) rfl ?_
                      intro a W kst l0 h0 A0 hF hD
                      have k0 : kst = 2 := Nat.le_antisymm h0 l0
                      subst k0
                      clear l0 h0
                      have e134 : a.tmps[134]?.getD undef = .bool false := (ev a 134).symm.trans (hD _ (Array.mem_of_getElem? (i := 0) rfl) rfl)
                      have e147 : a.tmps[147]?.getD undef = .bool false := (ev a 147).symm.trans (hD _ (Array.mem_of_getElem? (i := 1) rfl) rfl)
                      clear hF hD
                      go_simp
                    · refine chain_is _ (.inl rfl) ⟨_, rfl⟩ (by kernel_rfl) rfl ?_
                      intro a W kst l0 h0 A0 hF hD
                      have k0 : kst = 2 := Nat.le_antisymm h0 l0
                      subst k0
                      clear l0 h0
                      have e148 : a.tmps[148]?.getD undef = .bool false := (ev a 148).symm.trans (hD _ (Array.mem_of_getElem? (i := 0) rfl) rfl)
                      clear hF hD
                      go_simp
                    · refine chain_is _ (.inr ⟨_, _, _, rfl, Array.mem_of_getElem? (i := 0) rfl, rfl, rfl, fun _ h => h⟩) ⟨_, rfl⟩ (by kernel_rfl) rfl ?_
                      intro a W kst l0 h0 A0 hF hD
                      have k0 : kst = 2 := Nat.le_antisymm h0 l0
                      subst k0
                      clear l0 h0
                      have e14 : a.tmps[14]?.getD undef = _ := (ev a 14).symm.trans (hF 14 (by kernel_rfl))
                      clear hF hD
                      go_simp
                    · refine chain_is _ (.inr ⟨_, _, _, rfl, Array.mem_of_getElem? (i := 0) rfl, rfl, rfl, fun _ h => h⟩) ⟨_, rfl⟩ (by kernel_rfl) rfl ?_
                      intro a W kst l0 h0 A0 hF hD
                      have k0 : kst = 2 := Nat.le_antisymm h0 l0
                      subst k0
                      clear l0 h0
                      have e15 : a.tmps[15]?.getD undef = _ := (ev a 15).symm.trans (hF 15 (by kernel_rfl))
                      clear hF hD
                      go_simp
                    · refine chain_is _ (.inr ⟨_, _, _, rfl, Array.mem_of_getElem? (i := 2) rfl, rfl, rfl, fun _ h => h⟩) ⟨_, rfl⟩ (by kernel_rfl) rfl ?_
                      intro a W kst l0 h0 A0 hF hD
                      have k0 : kst = 2 := Nat.le_antisymm h0 l0
                      subst k0
                      clear l0 h0
                      have e150 : a.tmps[150]?.getD undef = .slice (some ⟨gm, 0, none⟩) 1 1 := (ev a 150).symm.trans (hD _ (Array.mem_of_getElem? (i := 0) rfl) rfl)
                      have e151 : a.tmps[151]?.getD undef = .int .i64 0 := (ev a 151).symm.trans (hD _ (Array.mem_of_getElem? (i := 1) rfl) rfl)
                      clear hF hD
                      go_simp
                    · refine chain_is _ (.inr ⟨_, _, _, rfl, Array.mem_of_getElem? (i := 1) rfl, rfl, rfl, fun _ h => h⟩) ⟨_, rfl⟩ (by kernel_rfl) rfl ?_
                      intro a W kst l0 h0 A0 hF hD
                      have k0 : kst = 2 := Nat.le_antisymm h0 l0
                      subst k0
                      clear l0 h0
                      have e152 : a.tmps[152]?.getD undef = .pointer (some ⟨gm, 0, none⟩) := (ev a 152).symm.trans (hD _ (Array.mem_of_getElem? (i := 0) rfl) rfl)
                      clear hF hD
                      go_simp
                    · refine chain_is _ (.inr ⟨_, _, _, rfl, Array.mem_of_getElem? (i := 1) rfl, rfl, rfl, fun _ h => h⟩) ⟨_, rfl⟩ (by kernel_rfl) rfl ?_
                      intro a W kst l0 h0 A0 hF hD
                      have k0 : kst = 2 := Nat.le_antisymm h0 l0
                      subst k0
                      clear l0 h0
                      have e153 : a.tmps[153]?.getD undef = .pointer (some ⟨gm, 0, none⟩) := (ev a 153).symm.trans (hD _ (Array.mem_of_getElem? (i := 0) rfl) rfl)
                      clear hF hD
                      have g2 := cell_up (cbA_u A0) C0.out
                      go_simp
                    · refine chain_is _ (.inr ⟨_, _, _, rfl, Array.mem_of_getElem? (i := 1) rfl, rfl, rfl, fun _ h => h⟩) ⟨_, rfl⟩ (by kernel_rfl) rfl ?_
                      intro a W kst l0 h0 A0 hF hD
                      have k0 : kst = 2 := Nat.le_antisymm h0 l0
                      subst k0
                      clear l0 h0
                      have e154 : a.tmps[154]?.getD undef = .int .i64 9 := (ev a 154).symm.trans (hD _ (Array.mem_of_getElem? (i := 0) rfl) rfl)
                      clear hF hD
                      go_simp
                    · refine chain_is _ (.inl rfl) ⟨_, rfl⟩ (by kernel_rfl) rfl ?_
                      intro a W kst l0 h0 A0 hF hD
                      have k0 : kst = 2 := Nat.le_antisymm h0 l0
                      subst k0
                      clear l0 h0
                      have e149 : a.tmps[149]?.getD undef = .bool false := (ev a 149).symm.trans (hD _ (Array.mem_of_getElem? (i := 0) rfl) rfl)
                      have e155 : a.tmps[155]?.getD undef = .bool false := (ev a 155).symm.trans (hD _ (Array.mem_of_getElem? (i := 1) rfl) rfl)
                      clear hF hD
                      go_simp
                  intro vals W hv hA
                  have v0 : vals 0 = .int .i64 d := hv 0 (by decide)
                  have v1 : vals 1 = .slice (some q) i cap := hv 1 (by decide)
                  have v2 : vals 2 = .int .i64 i := hv 2 (by decide)
                  have v3 : vals 3 = .bool false := hv 3 (by decide)
                  have v4 : vals 4 = .bool false := hv 4 (by decide)
                  have v5 : vals 5 = .slice (some ⟨gm, 0, none⟩) 1 1 := hv 5 (by decide)
                  have v6 : vals 6 = .int .i64 0 := hv 6 (by decide)
                  have v7 : vals 7 = .pointer (some ⟨gm, 0, none⟩) := hv 7 (by decide)
                  have v8 : vals 8 = .pointer (some ⟨gm, 1, none⟩) := hv 8 (by decide)
                  have v9 : vals 9 = .int .i64 sx := hv 9 (by decide)
                  have v10 : vals 10 = .slice (some q) i cap := hv 10 (by decide)
                  have v11 : vals 11 = .int .i64 d := hv 11 (by decide)
                  have v12 : vals 12 = .pointer (some (q.add d)) := hv 12 (by decide)
                  have v13 : vals 13 = .int .i64 sx := hv 13 (by decide)
                  have v14 : vals 14 = .bool false := hv 14 (by decide)
                  have v15 : vals 15 = .bool false := hv 15 (by decide)
                  have v16 : vals 16 = .bool false := hv 16 (by decide)
                  have v17 : vals 17 = .slice (some ⟨gm, 0, none⟩) 1 1 := hv 17 (by decide)
                  have v18 : vals 18 = .int .i64 0 := hv 18 (by decide)
                  have v19 : vals 19 = .pointer (some ⟨gm, 0, none⟩) := hv 19 (by decide)
                  have v20 : vals 20 = .pointer (some ⟨gm, 4, none⟩) := hv 20 (by decide)
                  have v21 : vals 21 = .slice (some ⟨g2, o2, none⟩) 2 c2 := hv 21 (by decide)
                  have v22 : vals 22 = .int .i64 2 := hv 22 (by decide)
                  have v23 : vals 23 = .bool false := hv 23 (by decide)
                  have v24 : vals 24 = .bool false := hv 24 (by decide)
                  have v25 : vals 25 = .bool false := hv 25 (by decide)
                  have v26 : vals 26 = .slice (some ⟨gm, 0, none⟩) 1 1 := hv 26 (by decide)
                  have v27 : vals 27 = .int .i64 0 := hv 27 (by decide)
                  have v28 : vals 28 = .pointer (some ⟨gm, 0, none⟩) := hv 28 (by decide)
                  have v29 : vals 29 = .pointer (some ⟨gm, 4, none⟩) := hv 29 (by decide)
                  have v30 : vals 30 = .slice (some ⟨g2, o2, none⟩) 2 c2 := hv 30 (by decide)
                  have v31 : vals 31 = .pointer (some ⟨g2, o2 + 5, none⟩) := hv 31 (by decide)
                  have v32 : vals 32 = .pointer (some ⟨g2, o2 + 9, none⟩) := hv 32 (by decide)
                  have v33 : vals 33 = .string (strOfNums [(d : Int)]) := hv 33 (by decide)
                  have v34 : vals 34 = .int .i64 d := hv 34 (by decide)
                  have v35 : vals 35 = .int .u8 d := hv 35 (by decide)
                  have v37 : vals 37 = .string (strOfNums [(d : Int)]) := hv 37 (by decide)
                  have v38 : vals 38 = .bool false := hv 38 (by decide)
                  have v39 : vals 39 = .bool false := hv 39 (by decide)
                  have v40 : vals 40 = .bool false := hv 40 (by decide)
                  have v41 : vals 41 = .slice (some ⟨gm, 0, none⟩) 1 1 := hv 41 (by decide)
                  have v42 : vals 42 = .int .i64 0 := hv 42 (by decide)
                  have v43 : vals 43 = .pointer (some ⟨gm, 0, none⟩) := hv 43 (by decide)
                  have v44 : vals 44 = .pointer (some ⟨gm, 0, none⟩) := hv 44 (by decide)
                  have v45 : vals 45 = .int .i64 9 := hv 45 (by decide)
                  have v46 : vals 46 = .bool false := hv 46 (by decide)
                  have v47 : vals 47 = .bool false := hv 47 (by decide)
                  clear hv
                  have hA9 : Upd [] wr W := hA
                  simp only [putAll, Act.put, Nat.zero_add, Nat.reduceAdd, v0, v1, v2, v3, v4, v5, v6, v7, v8, v9, v10, v11, v12, v13, v14, v15, v16, v17, v18, v19, v20, v21, v22, v23, v24, v25, v26, v27, v28, v29, v30, v31, v32, v33, v34, v35, v37, v38, v39, v40, v41, v42, v43, v44, v45, v46, v47, List.setIfInBounds_toArray, List.set_cons_zero, List.set_cons_succ]
                  clear v0 v1 v2 v3 v4 v5 v6 v7 v8 v9 v10 v11 v12 v13 v14 v15 v16 v17 v18 v19 v20 v21 v22 v23 v24 v25 v26 v27 v28 v29 v30 v31 v32 v33 v34 v35 v37 v38 v39 v40 v41 v42 v43 v44 v45 v46 v47
                  clear hA
                  have HA9 := Lib.hid hA9
                  clear hA9
                  go_wp2_with fail
                  go_roundg 0
                  case rel => exact ⟨1, by omega, by go_num, by go_num, HJ1.out.keep HA9.out, fun h => absurd h (by omega)⟩
                  case measure => omega
                · obtain rfl : j = nm := by omega
                  have hdl : d + j ≤ i := HND.out
                  have HDK : Hid (d0 + (tell b (x.take (k + 1))).length = d + j) := by
                    show _ = _
                    have h1 := HDE.out
                    have h2 := HNM.out
                    rw [HTE.out, List.length_append]
                    omega
                  go_wp2_with fail
                  go_roundg (nx - (k + 1))
                  case rel => exact ⟨k + 1, d + j, by omega, by go_num, rfl, HDK.out, hdl, by rw [HF.out]; exact HJ1.out, by rw [HF.out]; exact HG.out⟩
                  case measure => omega
            · obtain rfl : k = nx := by omega
              have htk : x.take k = x := List.take_of_length_le (Nat.le_of_eq HNX.out)
              rw [htk] at hk1 hk2 HDE
              have HLN : Hid ((toldN (r + 1) P0).length = d) := by show _ = _; rw [HD'.out, List.length_append, HD00.out]; exact HDE.out
              have HOB := Lib.hid (hk1.two.swap.outA hk2)
              have hlen2 := hk1.two.swap.outLen
              have HSZ2 := Lib.hid (Tn.out_size hk2 (TunAt.ok hk1.two.swap.atA))
              have HGB : Hid ((feed b x).out.1.Good (1000 + 42 * (20 - (r + 1)))) := hk2.out.less (by omega)
              generalize feed b x = b1 at *
              generalize b1.out.2 = z at *
              generalize b1.out.1 = b2 at *
              clear hk1 hk2 htk H4
              go_wp2_with fail
              refine HOB.out.mono ?_
              rintro e w6 ⟨vz, rfl, h6⟩
              obtain ⟨zo, zc, rfl⟩ := h6.shape
              have H6 := Lib.hid h6
              obtain ⟨ny, hny⟩ : ∃ ny, z.length = ny := ⟨_, rfl⟩
              have HNY := Lib.hid hny
              rw [hny] at hlen2 H6
              rw [hny]
              clear h6 hny HOB
              go_wp2_with fail
              go_loopg [17] ny (fun m17 s17 wr10 => ∃ (j : Nat), j + m17 = ny ∧ s17 = .int .i64 j ∧ TwoL w wr10 pb pa b2 (feed a1 (z.take j)) (.slice zo ny zc) z ∧ (feed a1 (z.take j)).Good (1000 + 42 * (20 - (r + 1)) + (ny - j)))
              case atStart => exact ⟨0, by omega, rfl, by simpa [feed] using H6.out, by simpa [feed] using HGA.out.less (by omega)⟩
              case round =>
                obtain ⟨j, hj, rfl, hk1, hk2⟩ := hrel
                by_cases t10 : j < ny
                · obtain ⟨y, hy⟩ : ∃ y, z[j]? = some y := ⟨_, List.getElem?_eq_getElem (by have := HNY.out; omega)⟩
                  obtain ⟨g, off, cap', hv, hle, hc⟩ := hk1.text j hy
                  injection hv with hv1 hv2 hv3
                  subst hv1 hv3
                  have hsz := HSZ2.out y (List.mem_of_getElem? hy)
                  have HTB := Lib.hid (hk1.takeB y (by omega) hk2)
                  have HG : Hid (((feed a1 (z.take j)).take y).1.Good (1000 + 42 * (20 - (r + 1)) + (ny - (j + 1)))) := (hk2.ofEq (by omega)).take y
                  have HF : Hid (feed a1 (z.take (j + 1)) = ((feed a1 (z.take j)).take y).1) := by show _ = _; rw [← feed_snoc, List.take_add_one, hy]; rfl
                  have hle : ny ≤ zc := by have := HNY.out; omega
                  clear hk1 hk2 hv2 hy hsz
                  generalize ((feed a1 (z.take j)).take y).1 = a2 at *
                  go_wp2_with fail
                  refine HTB.out.mono ?_
                  rintro e w7 ⟨⟨u, rfl⟩, h7⟩
                  have H7 := Lib.hid h7
                  clear h7 HTB
                  go_wp2_with fail
                  go_roundg (ny - (j + 1))
                  case rel => exact ⟨j + 1, by omega, by go_num, by rw [HF.out]; exact H7.out, by rw [HF.out]; exact HG.out⟩
                  case measure => omega
                · obtain rfl : j = ny := by omega
                  have htk : z.take j = z := List.take_of_length_le (Nat.le_of_eq HNY.out)
                  rw [htk] at hk1 hk2
                  have HK := Lib.hid (And.intro hk1 hk2)
                  clear hk1 hk2 htk
                  go_wp2_with fail
                  go_roundg (20 - (r + 1))
                  case rel => exact ⟨r + 1, by omega, by go_num, by rw [HLN.out], by rw [HQ'.out]; exact ⟨HK.out.1.two.swap, HK.out.2.less (by omega), HGB.out⟩⟩
                  case measure => omega
        · have hr20 : r = 20 := by omega
          have t11' : ¬ (r : Int) < 20 := by omega
          have HLR : Hid ((toldN r P0).length = i) := by rw [hr20]; exact HLEN
          rw [HLR.out]
          clear hr20 t11
          go_wp2_with fail
          refine (HAL.out _).mono ?_
          rintro e w5 ⟨rfl, u5⟩
          go_wp2_with fail
          go_ret
          exact ⟨rfl, HM.out.two.u.trans u5⟩
theorem tunnelCarries_walk (s : ByteArray) {P : Prop} (_ : P) {H : Type} {enc : TypeId × Value → H} {W : World} {u : Value} {b : DataW H} {q : List MemPlace} {base : Nat}
    (h2 : DataW.Trod enc Tryz.prog W 0 (fun _ => true) true 33 u b q) (o2 : Value.okWide Tryz.prog W .any base 33 u) :
    Calls Tryz.prog 5 #[.string s, u] W fun e w' => e = .returned (.bool true) ∧ Below W.heap.size W w' := by
  obtain ⟨m, hm, -⟩ := ints_in h2 o2
  exact (tunnelCarries_any s m u W hm).mono fun e w' ⟨he, hu⟩ => ⟨he, hu.below⟩
end Go.Proofs.YtolfjfkkbhbbbaaGreat
