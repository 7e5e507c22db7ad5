/- The walk of chapter 21's TunnelHellos. -/
import Derived.Test.YtolfjfkkbhbbbaaGreatQTunEn
namespace Go.Proofs.YtolfjfkkbhbbbaaGreat
open Go.RowKit
set_option linter.unusedSimpArgs false
set_option linter.unusedVariables false
set_option maxRecDepth 100000

def cntH (l : List Item) : Nat := (l.filter (fun i => decide (i.body = helB))).length
theorem cntH_snoc (l : List Item) (i : Item) : cntH (l ++ [i]) = cntH l + if i.body = helB then 1 else 0 := by
  simp only [cntH, List.filter_append, List.length_append]
  by_cases h : i.body = helB
  · simp [h]
  · simp [h]
theorem cntH_le (l : List Item) : cntH l ≤ l.length := List.length_filter_le _ _
def hX (p : Ev2) : Ev × List Item := p.a.tick.out
def hB (deaf : Bool) (p : Ev2) : Ev := if deaf = true then p.b else evFeed p.b (hX p).2
def hY (deaf : Bool) (p : Ev2) : Ev × List Item := (hB deaf p).out
def hround (deaf : Bool) (p : Ev2) : Ev2 := ⟨if deaf = true then (hX p).1 else evFeed (hX p).1 (hY deaf p).2, (hY deaf p).1⟩
def hok (deaf : Bool) (p : Ev2) : Bool := (hX p).2.all okItem && (hY deaf p).2.all okItem
def hnext (deaf : Bool) (s : Ev2 × Nat) : Ev2 × Nat := (hround deaf s.1, s.2 + cntH (hX s.1).2)
def hst (deaf : Bool) : Nat → Ev2 × Nat
  | 0 => (ev0, 0)
  | n + 1 => hnext deaf (hst deaf n)
def chkH (deaf : Bool) : Nat → Ev2 × Nat → Bool
  | 0, s => if deaf = true then decide (s.1.a.st = 4) && decide (s.2 = 4) else decide (s.1.a.st = 3) && decide (5 ≤ s.2)
  | n + 1, s => hok deaf s.1 && chkH deaf n (hnext deaf s)
theorem chkH_t : chkH true 120 (ev0, 0) = true := by decide +kernel
theorem chkH_f : chkH false 120 (ev0, 0) = true := by decide +kernel
theorem chkH_all (deaf : Bool) : ∀ (n j : Nat), chkH deaf n (hst deaf j) = true → (∀ k, k < n → hok deaf (hst deaf (j + k)).1 = true) ∧ chkH deaf 0 (hst deaf (j + n)) = true
  | 0, j, h => ⟨fun k hk => absurd hk (by omega), h⟩
  | n + 1, j, h => by
    rw [chkH, Bool.and_eq_true] at h
    obtain ⟨h1, h2⟩ := chkH_all deaf n (j + 1) h.2
    refine ⟨fun k hk => ?_, by rw [show j + (n + 1) = j + 1 + n by omega]; exact h2⟩
    cases k with
    | zero => exact h.1
    | succ k =>
      rw [show j + (k + 1) = j + 1 + k by omega]
      exact h1 k (by omega)
theorem hst_ok (deaf : Bool) : (∀ k, k < 120 → hok deaf (hst deaf k).1 = true) ∧ chkH deaf 0 (hst deaf 120) = true := by
  have h : chkH deaf 120 (hst deaf 0) = true := by cases deaf; exact chkH_f; exact chkH_t
  have := chkH_all deaf 120 0 h
  simpa using this
theorem hst_live (deaf : Bool) : ∀ k, (hst deaf k).1.a.live ∧ (hst deaf k).1.b.live
  | 0 => ⟨.inl rfl, .inl rfl⟩
  | k + 1 => by
    obtain ⟨h1, h2⟩ := hst_live deaf k
    have h3 := Ev.out_live (Ev.tick_live h1)
    have h4 : (hB deaf (hst deaf k).1).live := by
      unfold hB
      split
      · exact h2
      · exact Ev.feed_live _ h2
    refine ⟨?_, Ev.out_live h4⟩
    show (if deaf = true then _ else _ : Ev).live
    split
    · exact h3
    · exact Ev.feed_live _ h3
/-- What is heard of an item. -/
theorem get_item {id : Int} (hid : 0 ≤ id ∧ id < 65536) {i : Item} (hi : okItem i = true) (s : ByteArray) : getM (sayM id i) s = (⟨id, 0, i.ns, i.nr, if i.body = helB then helL else []⟩, 0) := by
  obtain ⟨h1, h2, h5⟩ := okItem_parts hi
  obtain ⟨ns, nr, b⟩ := i
  dsimp only at h1 h2 h5 ⊢
  by_cases hb : b = helB
  · subst hb
    rw [if_pos rfl, show helB = bodyC 0 helL from rfl, say_clear ⟨hid, by omega, h1, h2⟩ hel_clear, raw_get ⟨hid, by omega, h1, h2⟩ (putA_clear hel_clear s)]
  · rw [if_neg hb]
    obtain rfl := h5.resolve_left hb
    rw [sayM, if_pos (show ByteArray.size ⟨#[]⟩ = 0 from rfl), raw_get ⟨hid, by omega, h1, h2⟩ (putA_nil s)]
section
variable {w W W' : World} {pa pb : Nat} {a b : Tn} {v : Value} {l : List ByteArray}
theorem TwoL.keep (h : TwoL w W pa pb a b v l) (k : Upd [] W W') : TwoL w W' pa pb a b v l := by
  obtain ⟨⟨oa, ob, ol, h1, h2, h3, h4, h5, h6, h7, h8⟩, hu⟩ := h
  exact ⟨⟨oa, ob, ol, h1.keep k, h2.keep k, h3, h4, h5, h6.upd k (by simp), h7, h8⟩, hu.trans k⟩
end

set_option maxHeartbeats 2000000 in
theorem tunnelHellos_any (s : ByteArray) (deaf : Bool) (w : World) :
    Calls Tryz.prog 7 #[.string s, .bool deaf] w (AliveEnd w) := by
  have HAL := Lib.hid alive21_any
  by_cases hs : s.size ≤ 60
  case neg =>
    go_enter Tryz.func7, Tryz.ntmps7
    go_wp2_with fail
    refine (HAL.out _).mono ?_
    rintro e w1 ⟨rfl, u1⟩
    go_wp2_with fail
    go_ret
    exact ⟨rfl, u1⟩
  have HP := Lib.hid ((pair_any s s hs hs w).mono fun e w' k => k.ex)
  have HO : Hid ((endA s).open_ = (openC (endA s), 0)) := open_endA _
  have HG := Lib.hid (endA_good s hs)
  have HME : Hid (∀ W pa pb, Two w W pa pb (openC (endA s)) (endB s) → Calls Tryz.prog 13 #[.pointer (some ⟨pa, 0, none⟩), .pointer (some ⟨pb, 0, none⟩), .int .i64 4] W (MetEnd w pa pb (ev0.a.on (O5 (endA s) (endB s)), ev0.b.on (R5 (endA s) (endB s))) 20000)) := by
    intro W pa pb h
    have k := pair_meet s s hs hs h 4 (by omega)
    rw [meet_know (startA s) (startB s) rfl (know_same rfl) 2] at k
    exact k
  have F : Hid ((O5 (endA s) (endB s)).id = 9 ∧ (R5 (endA s) (endB s)).id = 5 ∧ (O5 (endA s) (endB s)).cid = 5 ∧ (R5 (endA s) (endB s)).cid = 9 ∧ (O5 (endA s) (endB s)).hello = 20 ∧ (R5 (endA s) (endB s)).hello = 20) := ⟨rfl, rfl, rfl, rfl, rfl, rfl⟩
  generalize O5 (endA s) (endB s) = A5 at *
  generalize R5 (endA s) (endB s) = B5 at *
  generalize openC (endA s) = A1 at *
  generalize endA s = A0 at *
  generalize endB s = B0 at *
  have HS := Lib.hid hs
  cases deaf
  case true =>
    go_enter Tryz.func7, Tryz.ntmps7
    go_wp2_with fail
    refine HP.out.mono ?_
    rintro e w1 ⟨pa, pb, rfl, h1⟩
    have H1 := Lib.hid h1
    clear h1
    go_wp2_with fail
    refine (H1.out.openA HG.out).mono ?_
    rintro e w2 ⟨rfl, h2⟩
    rw [HO.out] at h2
    simp only [HO.out]
    have H2 := Lib.hid h2
    clear h2
    go_wp2_with fail
    refine (HME.out _ _ _ H2.out).mono ?_
    rintro e w3 ⟨rfl, h3⟩
    have H3 := Lib.hid h3
    clear h3 HME HG HO HP H1 H2
    go_wp2_with fail
    go_loopg [8, 9] 120 (fun m s8 s9 wr => ∃ k : Nat, k + m = 120 ∧ s9 = .int .i64 k ∧ s8 = .int .i64 (hst true k).2 ∧ (hst true k).2 ≤ 42 * k ∧ Met w wr pa pb ((hst true k).1.a.on A5, (hst true k).1.b.on B5) (5000 + 100 * (120 - k)))
    case atStart => exact ⟨0, by omega, rfl, rfl, by show 0 ≤ _; omega, ⟨H3.out.two, H3.out.ga.less (by omega), H3.out.gb.less (by omega)⟩⟩
    case round =>
      obtain ⟨k, hk, rfl, rfl, hsd, hr⟩ := hrel
      obtain ⟨l1, l2⟩ := hst_live true k
      by_cases tt : k < 120
      · have hok1 := (hst_ok true).1 k tt
        have HNX : Hid (hst true (k + 1) = hnext true (hst true k)) := rfl
        obtain ⟨p, hp⟩ : ∃ p, (hst true k).1 = p := ⟨_, rfl⟩
        obtain ⟨sd, hsd'⟩ : ∃ sd, (hst true k).2 = sd := ⟨_, rfl⟩
        have HNX : Hid (hst true (k + 1) = (hround true p, sd + cntH (hX p).2)) := by show _ = _; rw [HNX.out, hnext, hp, hsd']
        rw [hp] at hok1 hr l1 l2
        rw [hsd'] at hsd ⊢
        have HSD : Hid (sd ≤ 42 * k) := hsd
        have HL := Lib.hid (And.intro l1 l2)
        simp only [hok, Bool.and_eq_true] at hok1
        have HOK := Lib.hid hok1
        have HTA : Hid ((p.a.on A5).tick = p.a.tick.on A5) := Ev.on_tick l1 F.out.2.2.2.2.1
        have HR : Hid (Met w wr pa pb (p.a.on A5, p.b.on B5) (5000 + 100 * (120 - (k + 1)) + 42 + 42 + 1)) := ⟨hr.two, hr.ga.less (by omega), hr.gb.less (by omega)⟩
        clear hr l1 l2 hok1 hp hsd' hsd
        go_wp2_with fail
        refine (HR.out.two.tickA HR.out.ga).mono ?_
        rintro e w4 ⟨rfl, h4⟩
        rw [HTA.out] at h4
        have H4 := Lib.hid h4
        have HGT : Hid ((p.a.tick.on A5).Good (5000 + 100 * (120 - (k + 1)) + 42 + 42)) := by have := HR.out.ga.tick; rw [HTA.out] at this; exact this
        have HOU := Lib.hid (H4.out.outA HGT.out)
        have hlen := H4.out.outLen
        have HOE : Hid ((p.a.tick.on A5).out = ((hX p).1.on A5, (hX p).2.map (sayM 9))) := by show _ = _; rw [Ev.on_out, F.out.1]; rfl
        rw [HOE.out] at HOU hlen
        have HSZ := Lib.hid (Tn.out_size HGT.out (TunAt.ok H4.out.atA))
        rw [HOE.out] at HSZ
        have HG1 : Hid (((hX p).1.on A5).Good (5000 + 100 * (120 - (k + 1)) + 42 + 42)) := by have := HGT.out.out; rw [HOE.out] at this; exact this
        simp only [List.length_map] at hlen
        clear h4
        obtain ⟨xs, hxs⟩ : ∃ xs, (hX p).2 = xs := ⟨_, rfl⟩
        have HXS := Lib.hid hxs
        rw [hxs] at HOU hlen HSZ HOK HNX
        clear hxs
        go_wp2_with fail
        refine HOU.out.mono ?_
        rintro e w5 ⟨v, rfl, h5⟩
        obtain ⟨ao, cap, rfl⟩ := h5.shape
        have H5 := Lib.hid h5
        obtain ⟨nx, hnx⟩ : ∃ nx, xs.length = nx := ⟨_, rfl⟩
        have HNL := Lib.hid hnx
        simp only [List.length_map] at H5 ⊢
        rw [hnx] at H5 hlen ⊢
        clear h5 hnx HOU
        go_wp2_with fail
        go_loopg [8, 11] nx (fun m8 s8 s11 wr8 => ∃ j : Nat, j + m8 = nx ∧ s11 = .int .i64 j ∧ s8 = .int .i64 (sd + cntH (xs.take j) : Nat) ∧ TwoL w wr8 pa pb ((hX p).1.on A5) (p.b.on B5) (.slice ao nx cap) (xs.map (sayM 9)) ∧ (p.b.on B5).Good (5000 + 100 * (120 - (k + 1)) + 42 + (nx - j)))
        case atStart => exact ⟨0, by omega, rfl, rfl, H5.out, HR.out.gb.less (by omega)⟩
        case round =>
          obtain ⟨j, hj, rfl, rfl, hk1, hk2⟩ := hrel
          by_cases t8 : j < nx
          · obtain ⟨i, hi⟩ : ∃ i, xs[j]? = some i := ⟨_, List.getElem?_eq_getElem (by have := HNL.out; omega)⟩
            have hoki : okItem i = true := List.all_eq_true.1 HOK.out.1 i (List.mem_of_getElem? hi)
            have hxi : (xs.map (sayM 9))[j]? = some (sayM 9 i) := by rw [List.getElem?_map, hi]; rfl
            obtain ⟨g, off, cap', hv, hle, hc⟩ := hk1.text j hxi
            injection hv with hv1 hv2 hv3
            subst hv1 hv3
            have hsz := HSZ.out _ (List.mem_of_getElem? hxi)
            have HSZ1 := Lib.hid hsz
            have HGE := Lib.hid (fun W => msgGet_any (sayM 9 i) s (by omega) (by have := HS.out; omega) W)
            rw [get_item (by omega) hoki s] at HGE
            have HTS : Hid (xs.take (j + 1) = xs.take j ++ [i]) := by show _ = _; rw [List.take_add_one, hi]; rfl
            have HCT : Hid (cntH (xs.take (j + 1)) = cntH (xs.take j) + if i.body = helB then 1 else 0) := by show _ = _; rw [HTS.out, cntH_snoc]
            have hcb : sd + cntH (xs.take j) ≤ 100000 := by have h1 := cntH_le (xs.take j); have h2 := HSD.out; rw [List.length_take] at h1; omega
            have hle : nx ≤ cap := by rw [List.length_map, HNL.out] at hle; exact hle
            have HK1 := Lib.hid hk1
            have HK2 := Lib.hid hk2
            have HOKI := Lib.hid hoki
            have HC := Lib.hid hc
            clear hk1 hk2 hi hxi hoki hv2 hsz
            generalize cntH (xs.take j) = cj at *
            obtain ⟨tx, htx⟩ : ∃ tx, sayM 9 i = tx := ⟨_, rfl⟩
            have HTX := Lib.hid htx
            rw [htx] at HGE hc HC HSZ1
            clear htx
            obtain ⟨L, hL⟩ : ∃ L, (if i.body = helB then helL else []) = L := ⟨_, rfl⟩
            have HLL := Lib.hid hL
            rw [hL] at HGE
            clear hL
            go_wp2_with fail
            refine (HGE.out _).mono ?_
            rintro e w6 ⟨vv, ol, rfl, ho, hnw, u6⟩
            obtain ⟨aq, cq, rfl, -, -⟩ := ho.shape
            have HAV : Hid (AvsAt w6 (.slice aq L.length cq) L) := AvsAt.of_own ho
            obtain ⟨lq, hlq⟩ : ∃ lq, L.length = lq := ⟨_, rfl⟩
            simp only [Cm.val]
            rw [hlq] at HAV ⊢
            have hal := u6.alloc (Obj.cells #[.int .i64 9, .int .i64 0, .int .i64 i.ns, .int .i64 i.nr, .slice aq lq cq] 55)
            have HK6 := Lib.hid (HK1.out.keep hal)
            have HKI : Hid (∀ W, Upd [] w6 W → Calls Tryz.prog 29 #[.agg #[.int .i64 9, .int .i64 0, .int .i64 i.ns, .int .i64 i.nr, .slice aq lq cq]] W fun e w' => e = .returned (.int .i64 (kindOf L)) ∧ Upd [] W w') := by
              intro W hW
              refine kind_any 9 0 i.ns i.nr _ L W (HAV.out.upd hW) (fun a ha => ?_)
              have hL := HLL.out
              split at hL
              · subst hL; exact Nat.le_trans (hel_clear.each a ha).2.2.2 (by simp [maxLen])
              · subst hL; simp at ha
            have c6 := (hal.cell (cell_lt' HC.out) (by simp)).trans HC.out
            have HC6 := Lib.hid c6
            clear ho hnw u6 hal hlq hc c6
            go_wp2_with fail
            refine (HKI.out _ ((Upd.refl [] _).alloc _)).mono ?_
            rintro e w7 ⟨rfl, u7⟩
            have HK7 := Lib.hid (HK6.out.keep u7)
            have c7 := (u7.cell (cell_lt' HC6.out) (by simp)).trans HC6.out
            clear u7 HC6 HK6
            by_cases hb : i.body = helB
            · have hkd : kindOf L = 6 := by rw [← HLL.out, if_pos hb]; exact hel_kind
              have HCN : Hid (cntH (xs.take (j + 1)) = cj + 1) := by show _ = _; rw [HCT.out, if_pos hb]
              rw [hkd]
              clear hb hkd HKI HAV
              go_wp2_with fail
              go_roundg (nx - (j + 1))
              case rel => exact ⟨j + 1, by omega, by go_num, by rw [HCN.out]; go_num, HK7.out, HK2.out.less (by omega)⟩
              case measure => omega
            · have hkd : kindOf L = -2 := by rw [← HLL.out, if_neg hb]; rfl
              have HCN : Hid (cntH (xs.take (j + 1)) = cj + 0) := by show _ = _; rw [HCT.out, if_neg hb]
              rw [hkd]
              clear hb hkd HKI HAV
              go_wp2_with fail
              go_roundg (nx - (j + 1))
              case rel => exact ⟨j + 1, by omega, by go_num, by rw [HCN.out]; go_num, HK7.out, HK2.out.less (by omega)⟩
              case measure => omega
          · obtain rfl : j = nx := by omega
            have htk : xs.take j = xs := List.take_of_length_le (Nat.le_of_eq HNL.out)
            skip
            have HBE : Hid (((p.b.on B5)).out = ((hY true p).1.on B5, (hY true p).2.map (sayM 5))) := by
              show _ = _
              rw [Ev.on_out, F.out.2.1, hY, hB, if_pos rfl]
            have HOB := Lib.hid (hk1.two.swap.outA hk2)
            have HSZ2 := Lib.hid (Tn.out_size hk2 (TunAt.ok hk1.two.swap.atA))
            have hlen2 := hk1.two.swap.outLen
            have HGB := Lib.hid (hk2.out.less (M := 5000 + 100 * (120 - (k + 1))) (by omega))
            rw [HBE.out] at HOB HSZ2 hlen2 HGB
            simp only [List.length_map] at hlen2
            rw [htk]
            have hcb : sd + cntH xs ≤ 42 * (k + 1) := by have h1 := cntH_le xs; have h2 := HSD.out; have h3 := HNL.out; omega
            have HCB := Lib.hid hcb
            clear hk1 hk2 htk hcb
            obtain ⟨ys, hys⟩ : ∃ ys, (hY true p).2 = ys := ⟨_, rfl⟩
            have HYS := Lib.hid hys
            rw [hys] at HOB HSZ2 hlen2 HOK
            clear hys
            generalize sd + cntH xs = sn at *
            go_wp2_with fail
            refine HOB.out.mono ?_
            rintro e w8 ⟨v, rfl, h8⟩
            obtain ⟨ao2, cap2, rfl⟩ := h8.shape
            have H8 := Lib.hid h8
            obtain ⟨ny, hny⟩ : ∃ ny, ys.length = ny := ⟨_, rfl⟩
            have HNY := Lib.hid hny
            simp only [List.length_map] at H8 ⊢
            rw [hny] at H8 hlen2 ⊢
            clear h8 hny HOB
            go_wp2_with fail
            go_loopg [15] 1 (fun m15 s15 wr15 => m15 = 1 ∧ s15 = .int .i64 0 ∧ wr15 = w8)
            case atStart => exact ⟨rfl, rfl, rfl⟩
            case round =>
              obtain ⟨-, rfl, rfl⟩ := hrel
              have HFIN : Hid (Met w _ pa pb ((hround true p).a.on A5, (hround true p).b.on B5) (5000 + 100 * (120 - (k + 1)))) := ⟨H8.out.two.swap, HG1.out.less (by omega), HGB.out⟩
              by_cases t9 : 0 < ny
              all_goals
                go_wp2_with fail
                go_roundg (120 - (k + 1))
                case rel => exact ⟨k + 1, by omega, by go_num, by rw [HNX.out], by rw [HNX.out]; exact HCB.out, by rw [HNX.out]; exact HFIN.out⟩
                case measure => omega
      · obtain rfl : k = 120 := by omega
        have hfin : (hst true 120).1.a.st = 4 ∧ (hst true 120).2 = 4 := by
          have h := (hst_ok true).2
          simpa [chkH] using h
        have HST : Hid (((hst true 120).1.a.on A5).state = 4) := hfin.1
        have h2 := hfin.2
        have HR := Lib.hid hr.two
        clear hr hfin l1 l2
        generalize (hst true 120).2 = sd at *
        generalize (hst true 120).1.a.on A5 = A9 at *
        generalize (hst true 120).1.b.on B5 = B9 at *
        subst h2
        go_wp2_with fail
        refine (HAL.out _).mono ?_
        rintro e w4 ⟨rfl, u4⟩
        have H4 := Lib.hid (HR.out.keep u4)
        clear u4
        go_wp2_with fail
        refine H4.out.stateA.mono ?_
        rintro e w5 ⟨rfl, rfl⟩
        rw [HST.out]
        go_wp2_with fail
        go_ret
        exact ⟨rfl, H4.out.u⟩
  case false =>
    go_enter Tryz.func7, Tryz.ntmps7
    go_wp2_with fail
    refine HP.out.mono ?_
    rintro e w1 ⟨pa, pb, rfl, h1⟩
    have H1 := Lib.hid h1
    clear h1
    go_wp2_with fail
    refine (H1.out.openA HG.out).mono ?_
    rintro e w2 ⟨rfl, h2⟩
    rw [HO.out] at h2
    simp only [HO.out]
    have H2 := Lib.hid h2
    clear h2
    go_wp2_with fail
    refine (HME.out _ _ _ H2.out).mono ?_
    rintro e w3 ⟨rfl, h3⟩
    have H3 := Lib.hid h3
    clear h3 HME HG HO HP H1 H2
    go_wp2_with fail
    go_loopg [8, 9] 120 (fun m s8 s9 wr => ∃ k : Nat, k + m = 120 ∧ s9 = .int .i64 k ∧ s8 = .int .i64 (hst false k).2 ∧ (hst false k).2 ≤ 42 * k ∧ Met w wr pa pb ((hst false k).1.a.on A5, (hst false k).1.b.on B5) (5000 + 100 * (120 - k)))
    case atStart => exact ⟨0, by omega, rfl, rfl, by show 0 ≤ _; omega, ⟨H3.out.two, H3.out.ga.less (by omega), H3.out.gb.less (by omega)⟩⟩
    case round =>
      obtain ⟨k, hk, rfl, rfl, hsd, hr⟩ := hrel
      obtain ⟨l1, l2⟩ := hst_live false k
      by_cases tt : k < 120
      · have hok1 := (hst_ok false).1 k tt
        have HNX : Hid (hst false (k + 1) = hnext false (hst false k)) := rfl
        obtain ⟨p, hp⟩ : ∃ p, (hst false k).1 = p := ⟨_, rfl⟩
        obtain ⟨sd, hsd'⟩ : ∃ sd, (hst false k).2 = sd := ⟨_, rfl⟩
        have HNX : Hid (hst false (k + 1) = (hround false p, sd + cntH (hX p).2)) := by show _ = _; rw [HNX.out, hnext, hp, hsd']
        rw [hp] at hok1 hr l1 l2
        rw [hsd'] at hsd ⊢
        have HSD : Hid (sd ≤ 42 * k) := hsd
        have HL := Lib.hid (And.intro l1 l2)
        simp only [hok, Bool.and_eq_true] at hok1
        have HOK := Lib.hid hok1
        have HTA : Hid ((p.a.on A5).tick = p.a.tick.on A5) := Ev.on_tick l1 F.out.2.2.2.2.1
        have HR : Hid (Met w wr pa pb (p.a.on A5, p.b.on B5) (5000 + 100 * (120 - (k + 1)) + 42 + 42 + 1)) := ⟨hr.two, hr.ga.less (by omega), hr.gb.less (by omega)⟩
        clear hr l1 l2 hok1 hp hsd' hsd
        go_wp2_with fail
        refine (HR.out.two.tickA HR.out.ga).mono ?_
        rintro e w4 ⟨rfl, h4⟩
        rw [HTA.out] at h4
        have H4 := Lib.hid h4
        have HGT : Hid ((p.a.tick.on A5).Good (5000 + 100 * (120 - (k + 1)) + 42 + 42)) := by have := HR.out.ga.tick; rw [HTA.out] at this; exact this
        have HOU := Lib.hid (H4.out.outA HGT.out)
        have hlen := H4.out.outLen
        have HOE : Hid ((p.a.tick.on A5).out = ((hX p).1.on A5, (hX p).2.map (sayM 9))) := by show _ = _; rw [Ev.on_out, F.out.1]; rfl
        rw [HOE.out] at HOU hlen
        have HSZ := Lib.hid (Tn.out_size HGT.out (TunAt.ok H4.out.atA))
        rw [HOE.out] at HSZ
        have HG1 : Hid (((hX p).1.on A5).Good (5000 + 100 * (120 - (k + 1)) + 42 + 42)) := by have := HGT.out.out; rw [HOE.out] at this; exact this
        simp only [List.length_map] at hlen
        clear h4
        obtain ⟨xs, hxs⟩ : ∃ xs, (hX p).2 = xs := ⟨_, rfl⟩
        have HXS := Lib.hid hxs
        rw [hxs] at HOU hlen HSZ HOK HNX
        clear hxs
        go_wp2_with fail
        refine HOU.out.mono ?_
        rintro e w5 ⟨v, rfl, h5⟩
        obtain ⟨ao, cap, rfl⟩ := h5.shape
        have H5 := Lib.hid h5
        obtain ⟨nx, hnx⟩ : ∃ nx, xs.length = nx := ⟨_, rfl⟩
        have HNL := Lib.hid hnx
        simp only [List.length_map] at H5 ⊢
        rw [hnx] at H5 hlen ⊢
        clear h5 hnx HOU
        go_wp2_with fail
        go_loopg [8, 11] nx (fun m8 s8 s11 wr8 => ∃ j : Nat, j + m8 = nx ∧ s11 = .int .i64 j ∧ s8 = .int .i64 (sd + cntH (xs.take j) : Nat) ∧ TwoL w wr8 pa pb ((hX p).1.on A5) ((evFeed p.b (xs.take j)).on B5) (.slice ao nx cap) (xs.map (sayM 9)) ∧ ((evFeed p.b (xs.take j)).on B5).Good (5000 + 100 * (120 - (k + 1)) + 42 + (nx - j)))
        case atStart => exact ⟨0, by omega, rfl, rfl, H5.out, HR.out.gb.less (by omega)⟩
        case round =>
          obtain ⟨j, hj, rfl, rfl, hk1, hk2⟩ := hrel
          by_cases t8 : j < nx
          · obtain ⟨i, hi⟩ : ∃ i, xs[j]? = some i := ⟨_, List.getElem?_eq_getElem (by have := HNL.out; omega)⟩
            have hoki : okItem i = true := List.all_eq_true.1 HOK.out.1 i (List.mem_of_getElem? hi)
            have hxi : (xs.map (sayM 9))[j]? = some (sayM 9 i) := by rw [List.getElem?_map, hi]; rfl
            obtain ⟨g, off, cap', hv, hle, hc⟩ := hk1.text j hxi
            injection hv with hv1 hv2 hv3
            subst hv1 hv3
            have hsz := HSZ.out _ (List.mem_of_getElem? hxi)
            have HSZ1 := Lib.hid hsz
            have HGE := Lib.hid (fun W => msgGet_any (sayM 9 i) s (by omega) (by have := HS.out; omega) W)
            rw [get_item (by omega) hoki s] at HGE
            have HTS : Hid (xs.take (j + 1) = xs.take j ++ [i]) := by show _ = _; rw [List.take_add_one, hi]; rfl
            have HCT : Hid (cntH (xs.take (j + 1)) = cntH (xs.take j) + if i.body = helB then 1 else 0) := by show _ = _; rw [HTS.out, cntH_snoc]
            have hcb : sd + cntH (xs.take j) ≤ 100000 := by have h1 := cntH_le (xs.take j); have h2 := HSD.out; rw [List.length_take] at h1; omega
            have hle : nx ≤ cap := by rw [List.length_map, HNL.out] at hle; exact hle
            have HK1 := Lib.hid hk1
            have HK2 := Lib.hid hk2
            have HOKI := Lib.hid hoki
            have HC := Lib.hid hc
            clear hk1 hk2 hi hxi hoki hv2 hsz
            generalize cntH (xs.take j) = cj at *
            obtain ⟨tx, htx⟩ : ∃ tx, sayM 9 i = tx := ⟨_, rfl⟩
            have HTX := Lib.hid htx
            rw [htx] at HGE hc HC HSZ1
            clear htx
            obtain ⟨L, hL⟩ : ∃ L, (if i.body = helB then helL else []) = L := ⟨_, rfl⟩
            have HLL := Lib.hid hL
            rw [hL] at HGE
            clear hL
            go_wp2_with fail
            refine (HGE.out _).mono ?_
            rintro e w6 ⟨vv, ol, rfl, ho, hnw, u6⟩
            obtain ⟨aq, cq, rfl, -, -⟩ := ho.shape
            have HAV : Hid (AvsAt w6 (.slice aq L.length cq) L) := AvsAt.of_own ho
            obtain ⟨lq, hlq⟩ : ∃ lq, L.length = lq := ⟨_, rfl⟩
            simp only [Cm.val]
            rw [hlq] at HAV ⊢
            have hal := u6.alloc (Obj.cells #[.int .i64 9, .int .i64 0, .int .i64 i.ns, .int .i64 i.nr, .slice aq lq cq] 55)
            have HK6 := Lib.hid (HK1.out.keep hal)
            have HKI : Hid (∀ W, Upd [] w6 W → Calls Tryz.prog 29 #[.agg #[.int .i64 9, .int .i64 0, .int .i64 i.ns, .int .i64 i.nr, .slice aq lq cq]] W fun e w' => e = .returned (.int .i64 (kindOf L)) ∧ Upd [] W w') := by
              intro W hW
              refine kind_any 9 0 i.ns i.nr _ L W (HAV.out.upd hW) (fun a ha => ?_)
              have hL := HLL.out
              split at hL
              · subst hL; exact Nat.le_trans (hel_clear.each a ha).2.2.2 (by simp [maxLen])
              · subst hL; simp at ha
            have c6 := (hal.cell (cell_lt' HC.out) (by simp)).trans HC.out
            have HC6 := Lib.hid c6
            clear ho hnw u6 hal hlq hc c6
            go_wp2_with fail
            refine (HKI.out _ ((Upd.refl [] _).alloc _)).mono ?_
            rintro e w7 ⟨rfl, u7⟩
            have HK7 := Lib.hid (HK6.out.keep u7)
            have c7 := (u7.cell (cell_lt' HC6.out) (by simp)).trans HC6.out
            clear u7 HC6 HK6
            by_cases hb : i.body = helB
            · have hkd : kindOf L = 6 := by rw [← HLL.out, if_pos hb]; exact hel_kind
              have HCN : Hid (cntH (xs.take (j + 1)) = cj + 1) := by show _ = _; rw [HCT.out, if_pos hb]
              rw [hkd]
              clear hb hkd HKI HAV
              go_wp2_with fail
              have HTK : Hid (Calls Tryz.prog 21 #[.pointer (some ⟨pb, 0, none⟩), .string tx] w7 fun e w' => (∃ u, e = .returned u) ∧ TwoL w w' pa pb ((hX p).1.on A5) ((evFeed p.b (xs.take (j + 1))).on B5) (.slice (some ⟨g, off, none⟩) nx cap) (xs.map (sayM 9))) := by
                have h := HK7.out.takeB tx (by have := HSZ1.out; omega) HK2.out
                have hf : (((evFeed p.b (xs.take j)).on B5).take tx).1 = (evFeed p.b (xs.take (j + 1))).on B5 := by
                  rw [← HTX.out, show (9 : Int) = B5.cid from F.out.2.2.2.1.symm, Ev.on_take (Ev.feed_live _ HL.out.2) (by rw [F.out.2.2.2.1]; omega) HOKI.out, HTS.out]
                  simp [evFeed]
                rw [hf] at h
                exact h
              have HGK : Hid (((evFeed p.b (xs.take (j + 1))).on B5).Good (5000 + 100 * (120 - (k + 1)) + 42 + (nx - (j + 1)))) := by
                have h := (HK2.out.ofEq (M := 5000 + 100 * (120 - (k + 1)) + 42 + (nx - (j + 1)) + 1) (by omega)).take tx
                have hf : (((evFeed p.b (xs.take j)).on B5).take tx).1 = (evFeed p.b (xs.take (j + 1))).on B5 := by
                  rw [← HTX.out, show (9 : Int) = B5.cid from F.out.2.2.2.1.symm, Ev.on_take (Ev.feed_live _ HL.out.2) (by rw [F.out.2.2.2.1]; omega) HOKI.out, HTS.out]
                  simp [evFeed]
                rw [hf] at h
                exact h
              refine HTK.out.mono ?_
              rintro e w8 ⟨⟨u, rfl⟩, h8⟩
              have H8 := Lib.hid h8
              clear h8
              go_wp2_with fail
              go_roundg (nx - (j + 1))
              case rel => exact ⟨j + 1, by omega, by go_num, by rw [HCN.out]; go_num, H8.out, HGK.out⟩
              case measure => omega
            · have hkd : kindOf L = -2 := by rw [← HLL.out, if_neg hb]; rfl
              have HCN : Hid (cntH (xs.take (j + 1)) = cj + 0) := by show _ = _; rw [HCT.out, if_neg hb]
              rw [hkd]
              clear hb hkd HKI HAV
              go_wp2_with fail
              have HTK : Hid (Calls Tryz.prog 21 #[.pointer (some ⟨pb, 0, none⟩), .string tx] w7 fun e w' => (∃ u, e = .returned u) ∧ TwoL w w' pa pb ((hX p).1.on A5) ((evFeed p.b (xs.take (j + 1))).on B5) (.slice (some ⟨g, off, none⟩) nx cap) (xs.map (sayM 9))) := by
                have h := HK7.out.takeB tx (by have := HSZ1.out; omega) HK2.out
                have hf : (((evFeed p.b (xs.take j)).on B5).take tx).1 = (evFeed p.b (xs.take (j + 1))).on B5 := by
                  rw [← HTX.out, show (9 : Int) = B5.cid from F.out.2.2.2.1.symm, Ev.on_take (Ev.feed_live _ HL.out.2) (by rw [F.out.2.2.2.1]; omega) HOKI.out, HTS.out]
                  simp [evFeed]
                rw [hf] at h
                exact h
              have HGK : Hid (((evFeed p.b (xs.take (j + 1))).on B5).Good (5000 + 100 * (120 - (k + 1)) + 42 + (nx - (j + 1)))) := by
                have h := (HK2.out.ofEq (M := 5000 + 100 * (120 - (k + 1)) + 42 + (nx - (j + 1)) + 1) (by omega)).take tx
                have hf : (((evFeed p.b (xs.take j)).on B5).take tx).1 = (evFeed p.b (xs.take (j + 1))).on B5 := by
                  rw [← HTX.out, show (9 : Int) = B5.cid from F.out.2.2.2.1.symm, Ev.on_take (Ev.feed_live _ HL.out.2) (by rw [F.out.2.2.2.1]; omega) HOKI.out, HTS.out]
                  simp [evFeed]
                rw [hf] at h
                exact h
              refine HTK.out.mono ?_
              rintro e w8 ⟨⟨u, rfl⟩, h8⟩
              have H8 := Lib.hid h8
              clear h8
              go_wp2_with fail
              go_roundg (nx - (j + 1))
              case rel => exact ⟨j + 1, by omega, by go_num, by rw [HCN.out]; go_num, H8.out, HGK.out⟩
              case measure => omega
          · obtain rfl : j = nx := by omega
            have htk : xs.take j = xs := List.take_of_length_le (Nat.le_of_eq HNL.out)
            rw [htk] at hk1 hk2
            have HBE : Hid ((((evFeed p.b xs).on B5)).out = ((hY false p).1.on B5, (hY false p).2.map (sayM 5))) := by
              show _ = _
              rw [Ev.on_out, F.out.2.1, hY, hB, if_neg (by simp), HXS.out]
            have HOB := Lib.hid (hk1.two.swap.outA hk2)
            have HSZ2 := Lib.hid (Tn.out_size hk2 (TunAt.ok hk1.two.swap.atA))
            have hlen2 := hk1.two.swap.outLen
            have HGB := Lib.hid (hk2.out.less (M := 5000 + 100 * (120 - (k + 1))) (by omega))
            rw [HBE.out] at HOB HSZ2 hlen2 HGB
            simp only [List.length_map] at hlen2
            rw [htk]
            have hcb : sd + cntH xs ≤ 42 * (k + 1) := by have h1 := cntH_le xs; have h2 := HSD.out; have h3 := HNL.out; omega
            have HCB := Lib.hid hcb
            clear hk1 hk2 htk hcb
            obtain ⟨ys, hys⟩ : ∃ ys, (hY false p).2 = ys := ⟨_, rfl⟩
            have HYS := Lib.hid hys
            rw [hys] at HOB HSZ2 hlen2 HOK
            clear hys
            generalize sd + cntH xs = sn at *
            go_wp2_with fail
            refine HOB.out.mono ?_
            rintro e w8 ⟨v, rfl, h8⟩
            obtain ⟨ao2, cap2, rfl⟩ := h8.shape
            have H8 := Lib.hid h8
            obtain ⟨ny, hny⟩ : ∃ ny, ys.length = ny := ⟨_, rfl⟩
            have HNY := Lib.hid hny
            simp only [List.length_map] at H8 ⊢
            rw [hny] at H8 hlen2 ⊢
            clear h8 hny HOB
            go_wp2_with fail
            go_loopg [15] ny (fun m15 s15 wr15 => ∃ j : Nat, j + m15 = ny ∧ s15 = .int .i64 j ∧ TwoL w wr15 pb pa ((hY false p).1.on B5) ((evFeed (hX p).1 (ys.take j)).on A5) (.slice ao2 ny cap2) (ys.map (sayM 5)) ∧ ((evFeed (hX p).1 (ys.take j)).on A5).Good (5000 + 100 * (120 - (k + 1)) + (ny - j)))
            case atStart => exact ⟨0, by omega, rfl, H8.out, HG1.out.less (by omega)⟩
            case round =>
              obtain ⟨j, hj, rfl, hk1, hk2⟩ := hrel
              by_cases t8 : j < ny
              · obtain ⟨i, hi⟩ : ∃ i, ys[j]? = some i := ⟨_, List.getElem?_eq_getElem (by have := HNY.out; omega)⟩
                have hoki : okItem i = true := List.all_eq_true.1 HOK.out.2 i (List.mem_of_getElem? hi)
                have hxi : (ys.map (sayM 5))[j]? = some (sayM 5 i) := by rw [List.getElem?_map, hi]; rfl
                obtain ⟨g, off, cap', hv, hle, hc⟩ := hk1.text j hxi
                injection hv with hv1 hv2 hv3
                subst hv1 hv3
                have hsz := HSZ2.out _ (List.mem_of_getElem? hxi)
                have hf : (((evFeed (hX p).1 (ys.take j)).on A5).take (sayM 5 i)).1 = (evFeed (hX p).1 (ys.take (j + 1))).on A5 := by
                  rw [show (5 : Int) = A5.cid from F.out.2.2.1.symm, Ev.on_take (show (evFeed (hX p).1 (ys.take j)).live from Ev.feed_live _ (Ev.out_live (Ev.tick_live HL.out.1))) (by rw [F.out.2.2.1]; omega) hoki, List.take_add_one, hi]
                  simp [evFeed]
                have HTK := Lib.hid (hk1.takeB (sayM 5 i) (by omega) hk2)
                have HGK := Lib.hid ((hk2.ofEq (M := 5000 + 100 * (120 - (k + 1)) + (ny - (j + 1)) + 1) (by omega)).take (sayM 5 i))
                rw [hf] at HTK HGK
                have hle : ny ≤ cap2 := by rw [List.length_map, HNY.out] at hle; exact hle
                clear hk1 hk2 hi hxi hoki hv2 hsz hf
                generalize sayM 5 i = tx at *
                go_wp2_with fail
                refine HTK.out.mono ?_
                rintro e w9 ⟨⟨u, rfl⟩, h9⟩
                have H9 := Lib.hid h9
                clear h9
                go_wp2_with fail
                go_roundg (ny - (j + 1))
                case rel => exact ⟨j + 1, by omega, by go_num, H9.out, HGK.out⟩
                case measure => omega
              · obtain rfl : j = ny := by omega
                have htk : ys.take j = ys := List.take_of_length_le (Nat.le_of_eq HNY.out)
                rw [htk] at hk1 hk2
                have hra : (hround false p).a = evFeed (hX p).1 ys := by
                  show (if false = true then (hX p).1 else evFeed (hX p).1 (hY false p).2 : Ev) = _
                  rw [if_neg (by simp), HYS.out]
                have hrb : (hround false p).b = (hY false p).1 := rfl
                have h2s := hk1.two.swap
                rw [← hra] at h2s hk2
                rw [← hrb] at h2s
                have HFA := Lib.hid hk2
                have HF2 := Lib.hid h2s
                clear hra hrb h2s
                clear hk1 hk2 htk
                go_wp2_with fail
                go_roundg (120 - (k + 1))
                case rel => exact ⟨k + 1, by omega, by go_num, by rw [HNX.out], by rw [HNX.out]; exact HCB.out, by rw [HNX.out]; exact ⟨HF2.out, HFA.out.less (by omega), HGB.out⟩⟩
                case measure => omega
      · obtain rfl : k = 120 := by omega
        have hfin : (hst false 120).1.a.st = 3 ∧ 5 ≤ (hst false 120).2 := by
          have h := (hst_ok false).2
          simpa [chkH] using h
        have HST : Hid (((hst false 120).1.a.on A5).state = 3) := hfin.1
        have h2 := hfin.2
        have HR := Lib.hid hr.two
        clear hr hfin l1 l2
        generalize (hst false 120).2 = sd at *
        generalize (hst false 120).1.a.on A5 = A9 at *
        generalize (hst false 120).1.b.on B5 = B9 at *
        skip
        go_wp2_with fail
        refine (HAL.out _).mono ?_
        rintro e w4 ⟨rfl, u4⟩
        have H4 := Lib.hid (HR.out.keep u4)
        clear u4
        go_wp2_with fail
        refine H4.out.stateA.mono ?_
        rintro e w5 ⟨rfl, rfl⟩
        rw [HST.out]
        go_wp2_with fail
        go_ret
        exact ⟨by simp; omega, H4.out.u⟩
theorem tunnelHellos_walk (s : ByteArray) {P : Prop} (_ : P) (deaf : Bool) (W : World) :
    Calls Tryz.prog 7 #[.string s, .bool deaf] W fun e w' => e = .returned (.bool true) ∧ Below W.heap.size W w' :=
  (tunnelHellos_any s deaf W).mono fun e w' ⟨he, hu⟩ => ⟨he, hu.below⟩
end Go.Proofs.YtolfjfkkbhbbbaaGreat
