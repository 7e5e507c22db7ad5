/- The walk of CtlFair, its parts ahead of the rounds: what it sends first. -/
import Derived.Test.YtclodmcdimaccaaCtlV
import Derived.Test.YtclodmcdimaccaaCtlFrE
import Derived.Test.YtclodmcdimaccaaSep
import Derived.Test.YtclodmcdimaccaaTexts
import Derived.Test.YtclodmcdimaccaaStrs
namespace Go.Proofs.Ytclodmcdimaccaa
open Go.RowKit
set_option linter.unusedSimpArgs false
set_option linter.unusedVariables false

def ctlT (b : Nat) (c : C) (own : List Nat) : Thing := ⟨own, fun w => CtlAt w b c own, fun _ _ _ h hu hF => h.upd hu hF, fun _ h => h.lt⟩
structure FrSt (w0 w : World) (ba bb : Nat) (p : Fair) (S : List ByteArray) (n g : Nat) (vs vg : Value) : Prop where
  hn : S.length = n
  hg : p.got.length = g
  sep : ∃ oa ob os og, Sep w0 w [ownT 9 1 vg g (strs p.got) og, ownT 9 1 vs n (strs S) os, ctlT bb p.b ob, ctlT ba p.a oa]

structure FrS2 (w0 w : World) (ba bb : Nat) (p : Fair) (S : List ByteArray) (n g : Nat) (vs vg : Value) (X : List Item) (nx : Nat) (vx : Value) : Prop where
  hn : S.length = n
  hg : p.got.length = g
  hx : X.length = nx
  sep : ∃ ox oa ob os og, Sep w0 w [ownT 30 3 vx nx (items X) ox, ownT 9 1 vg g (strs p.got) og, ownT 9 1 vs n (strs S) os, ctlT bb p.b ob, ctlT ba p.a oa]
theorem items_oneCell (l : List Item) : ∀ u ∈ items l, u.oneCell' = true := by
  intro u hu
  simp only [items, List.mem_flatMap] at hu
  obtain ⟨x, _, hu⟩ := hu
  simp [Item.cells] at hu
  rcases hu with rfl | rfl | rfl <;> rfl
theorem FrS2.st {w0 w : World} {ba bb : Nat} {p : Fair} {S : List ByteArray} {n g : Nat} {vs vg : Value} {X : List Item} {nx : Nat} {vx : Value} (h : FrS2 w0 w ba bb p S n g vs vg X nx vx) : FrSt w0 w ba bb p S n g vs vg := by
  obtain ⟨h1, h2, h3, ox, oa, ob, os, og, sp⟩ := h
  exact ⟨h1, h2, oa, ob, os, og, sp.drop⟩

set_option maxRecDepth 100000 in
set_option maxHeartbeats 2000000 in
theorem ctlFair_run (window first : Int) (N lost : Nat) (hw : 1 ≤ window ∧ window ≤ 8) (hf : 0 ≤ first ∧ first ≤ 65535) (hN : N ≤ 40) (hlost : lost ≤ 3) (w : World) :
    Calls Try.prog 7 #[.int .i64 window, .int .i64 first, .int .i64 N, .int .i64 lost] w fun e w' => e = .returned (.bool true) ∧ Upd [] w w' := by
  obtain ⟨hw1, hw2⟩ := hw
  obtain ⟨hf1, hf2⟩ := hf
  have NO : Hid (NewOk window 40 5 2 first) := by constructor <;> omega
  have FS : Hid (∀ k, k < 40 → ((frC k (C.new window 40 5 2 first)).send (frMsg k)).2 = 0) := fun k hk => frC_send window first k hk
  obtain ⟨i0, hi0, hz0, hz1, hz2⟩ := info_parts info_str
  go_enter Try.func7, Try.ntmps7
  go_wp2_with fail
  refine (new_at NO.out w).mono ?_
  rintro e w1 ⟨rfl, h1, u1, z1⟩
  go_wp2_with fail
  refine (new_at NO.out w1).mono ?_
  rintro e w2 ⟨rfl, h2, u2, z2⟩
  have ST : Hid (FrSt w w2 w.heap.size w1.heap.size ⟨C.new window 40 5 2 first, C.new window 40 5 2 first, [], lost⟩ [] 0 0 (.slice none 0 0) (.slice none 0 0)) := by
    have s1 : Sep w w1 [ctlT w.heap.size (C.new window 40 5 2 first) [w.heap.size]] := (Sep.nil w).cons u1 h1 (by simp [ctlT])
    have s2 := s1.cons (t := ctlT w1.heap.size (C.new window 40 5 2 first) [w1.heap.size]) u2 h2 (by simp [ctlT])
    exact ⟨rfl, rfl, [w.heap.size], [w1.heap.size], [], [], (s2.cons (t := ownT 9 1 _ 0 [] []) (Upd.refl _ _) (Own.nil _ _ _) (by simp [ownT])).cons (t := ownT 9 1 _ 0 [] []) (Upd.refl _ _) (Own.nil _ _ _) (by simp [ownT])⟩
  clear h1 h2 u1 u2
  go_wp2_with fail
  go_loopg [13, 15] N (fun m s13 s15 wr => ∃ k : Nat, k + m = N ∧ s15 = .int .i64 k ∧ FrSt w wr w.heap.size w1.heap.size ⟨frC k (C.new window 40 5 2 first), C.new window 40 5 2 first, [], lost⟩ (frSent k) k 0 s13 (.slice none 0 0))
  case atStart => exact ⟨0, by omega, rfl, ST.out⟩
  case round =>
    obtain ⟨k, hk, rfl, hst⟩ := hrel
    have HST := Lib.hid hst
    clear hst ST
    by_cases t : k < N
    · have hcv := str2 (P := Try.prog) (dst := 9) Try.underlying43 Try.underlying5 Try.underlying9 (Blk.new wr 5 #[.int .u8 109, .int .u8 k])
      have em : strOfNums [109, (k : Int)] = frMsg k := by simp [strOfNums, frMsg]
      rw [em] at hcv
      clear em
      obtain ⟨-, -, oa, ob, os, og, sp⟩ := HST.out
      have SP := Lib.hid (sp.keep ((Upd.refl [] wr).alloc (.cells #[.int .u8 109, .int .u8 k] 5)))
      clear sp HST
      obtain ⟨ao, cap, rfl, -, hcm⟩ := (SP.out.get 1 rfl : Own _ _ _ _ _ _ _).shape
      simp only [maxLen] at hcm
      go_wp2_with fail
      refine (send_at (SP.out.get 3 rfl) (frMsg k)).mono ?_
      rintro e w3 ⟨rfl, ⟨oa2, h3, g3⟩, u3⟩
      have e0 := FS.out k (by omega)
      rw [e0]
      have SP2 := Lib.hid (SP.out.set 3 rfl u3 (fun x hx => .inl hx) (t' := ctlT _ _ oa2) h3 g3)
      clear h3 g3 u3 e0
      have SP3 := Lib.hid (SP2.out.keep ((Upd.refl [] w3).alloc (.cells #[.string (frMsg k)] 9)))
      have HO := Lib.hid (SP3.out.get 1 rfl : Own _ _ _ _ _ _ _)
      have HR := Lib.hid (Own.texts (l := [frMsg k]) (Own.one_new w3 9 (.string (frMsg k))))
      go_wp2_with (first
        | (at_builtin; refine wpList_append_Rd _ rfl (.tmp 92) (.tmp 94) 27 rfl 9 i0 _ 1 16 Try.underlying27 hi0 hz0 hz1 hz2 rfl (by decide) _ k _ _ (by simp [Act.eval]) HO.out _ 1 _ (by simp [Act.eval]) HR.out (by simp only [maxLen]; omega) (by omega) ?_; intro ao1 cap1 w5 own1 ho1 hin1 hu5; have SP4 := Lib.hid (SP3.out.set 1 rfl hu5 (fun x hx => .inl hx) (t' := ownT 9 1 _ (k + 1) _ own1) ho1 hin1); clear ho1 hin1 hu5; generalize Value.slice ao1 (k + 1) cap1 = v5 at *))
      go_roundg (N - (k + 1))
      case rel =>
        refine ⟨k + 1, by omega, by go_num, frSent_length _, rfl, ?_⟩
        have h := SP4.out
        rw [show strs (frSent k) ++ strs [frMsg k] = strs (frSent (k + 1)) by simp [strs, frSent]] at h
        exact ⟨_, _, _, _, h⟩
      case measure => omega
    · obtain rfl : k = N := by omega
      obtain ⟨p0, hp0⟩ : ∃ p, p = frStart window first k lost := ⟨_, rfl⟩
      have HP0 : Hid (p0.fit ∧ p0.got = [] ∧ p0.lost = lost) := ⟨by rw [hp0]; exact frStart_fit NO.out k lost hlost, by rw [hp0]; rfl, by rw [hp0]; rfl⟩
      have HE : Hid ((frRun 400 p0).a.waits = [] ∧ (frRun 400 p0).a.flies = [] ∧ (frRun 400 p0).a.dead = false ∧ (frRun 400 p0).b.dead = false ∧ (frRun 400 p0).got = frSent k) := by
        rw [hp0]; exact fair_end window first ⟨hw1, hw2⟩ ⟨hf1, hf2⟩ k lost hN hlost
      have HS0 : Hid (FrSt w wr w.heap.size w1.heap.size p0 (frSent k) k 0 u13 (.slice none 0 0)) := by rw [hp0]; exact HST.out
      clear HST hp0 FS
      go_wp2_with fail
      go_loopg [3, 14, 17] 400 (fun m s3 s14 s17 wx => ∃ (j : Nat) (g : Nat), j + m = 400 ∧ s17 = .int .i64 j ∧ s3 = .int .i64 (frRun j p0).lost ∧ FrSt w wx w.heap.size w1.heap.size (frRun j p0) (frSent k) k g u13 s14)
      case atStart => exact ⟨0, 0, by omega, rfl, by rw [← HP0.out.2.2]; rfl, HS0.out⟩
      case round =>
        obtain ⟨j, g, hj, rfl, rfl, hst⟩ := hrel
        have HST := Lib.hid hst
        clear hst HS0
        by_cases tj : j < 400
        · obtain ⟨q, hq⟩ : ∃ q, q = frRun j p0 := ⟨_, rfl⟩
          have HQ : Hid (q.fit ∧ frRun (j + 1) p0 = frStep q) := ⟨by rw [hq]; exact HP0.out.1.run j, by rw [frRun_succ, ← hq]⟩
          have hgj : g ≤ 42 * j := by rw [← HST.out.hg]; exact frRun_len HP0.out.1.ok HP0.out.2.1 j
          have hll := HQ.out.1.l
          rw [← hq]
          rw [← hq] at HST
          clear hq
          obtain ⟨-, hgq, oa, ob, os, og, sp⟩ := HST.out
          have SP := Lib.hid sp
          have HG := Lib.hid hgq
          clear sp HST hgq
          obtain ⟨L, hL⟩ : ∃ L, L = q.lost := ⟨_, rfl⟩
          rw [← hL] at hll
          rw [← hL]
          have HL := Lib.hid hL
          clear hL
          go_wp2_with fail
          refine (out_at (SP.out.get 3 rfl)).mono ?_
          rintro e w3 ⟨⟨v3, p3, rfl, q3, r3⟩, ⟨oa2, h3, g3⟩, u3⟩
          obtain ⟨X, hX⟩ : ∃ X, X = q.a.out.2 := ⟨_, rfl⟩
          obtain ⟨nx, hnx⟩ : ∃ n, n = X.length := ⟨_, rfl⟩
          have hn42 : nx ≤ 42 := by rw [hnx, hX]; exact C.out_len' HQ.out.1.ok.a
          rw [← hX, ← hnx] at q3
          have HX := Lib.hid hX
          have HNX := Lib.hid hnx
          have S2 : Hid (FrS2 w w3 w.heap.size w1.heap.size (frOutA q) (frSent k) k g u13 u14 X nx v3) :=
            ⟨frSent_length k, HG.out, hnx.symm, _, _, _, _, _, SP.out.set_cons 3 rfl u3 (fun x hx => .inl hx) (t' := ctlT _ _ oa2) h3 g3 (s := ownT 30 3 v3 nx (items X) p3) q3 r3 (h3.ne_own q3 (by decide) (by decide))⟩
          obtain ⟨a3, c3, rfl, -, -⟩ := q3.shape
          clear q3 r3 h3 g3 u3 hX hnx SP
          go_wp2_with fail
          go_loopg [3, 14, 19] nx (fun m s3 s14 s19 wy => ∃ (i g2 : Nat), i + m = nx ∧ s19 = .int .i64 i ∧ s3 = .int .i64 ((X.take i).foldl frIn (frOutA q)).lost ∧ FrS2 w wy w.heap.size w1.heap.size ((X.take i).foldl frIn (frOutA q)) (frSent k) k g2 u13 s14 X nx (.slice a3 nx c3))
          case atStart => exact ⟨0, g, by omega, rfl, by rw [HL.out]; rfl, S2.out⟩
          case round =>
            obtain ⟨i, g2, hi, rfl, rfl, hst⟩ := hrel
            have HST := Lib.hid hst
            clear hst S2
            by_cases ti : i < nx
            · obtain ⟨r, hr⟩ : ∃ r, r = (X.take i).foldl frIn (frOutA q) := ⟨_, rfl⟩
              obtain ⟨x, hx⟩ : ∃ x, X[i]? = some x := by
                have := HNX.out
                exact ⟨_, List.getElem?_eq_getElem (by omega)⟩
              have HR : Hid (r.fit ∧ (X.take (i + 1)).foldl frIn (frOutA q) = frIn r x) := ⟨by rw [hr]; exact HQ.out.1.outA.ins _, by rw [foldl_at frIn _ _ i hx, ← hr]⟩
              have hg2 : g2 ≤ 42 * j + 42 := by
                have h1 := ins_len (X.take i) (frOutA q)
                have h2 := HST.out.hg
                have h3 : (frOutA q).got.length = g := HG.out
                have h4 := HNX.out
                rw [List.length_take] at h1
                omega
              have hrl := HR.out.1.l
              rw [← hr]
              rw [← hr] at HST
              clear hr
              obtain ⟨R, hR⟩ : ∃ L, L = r.lost := ⟨_, rfl⟩
              rw [← hR] at hrl
              rw [← hR]
              have HRL := Lib.hid hR
              clear hR
              have hbs : x.body.size ≤ 1500 := (C.small_out HQ.out.1.a).2 x (by rw [← HX.out]; exact List.mem_of_getElem? hx)
              have hxs := Lib.hid hx
              clear hx
              by_cases tl : 0 < R
              · go_wp2_with fail
                go_roundg (nx - (i + 1))
                case rel =>
                  have e : frIn r x = { r with lost := r.lost - 1 } := by unfold frIn; rw [if_pos (by rw [← HRL.out]; exact tl)]
                  refine ⟨i + 1, g2, by omega, by go_num, ?_⟩
                  rw [HR.out.2, e]
                  refine ⟨?_, HST.out.hn, HST.out.hg, HST.out.hx, HST.out.sep⟩
                  show _ = Value.int .i64 ((r.lost - 1 : Nat) : Int)
                  rw [← HRL.out, show ((R - 1 : Nat) : Int) = (R : Int) - 1 by omega]
                case measure => omega
              · obtain rfl : R = 0 := by omega
                obtain ⟨-, hgr, hxl, ox, oa3, ob3, os3, og3, sp⟩ := HST.out
                obtain ⟨qx, rfl, c0, c1, c2⟩ := ((sp.get 0 rfl : Own _ _ _ _ _ _ _).rd (items_oneCell X)).item hxs.out
                obtain ⟨ag, cg, rfl, -, hcm⟩ := (sp.get 1 rfl : Own _ _ _ _ _ _ _).shape
                simp only [maxLen] at hcm
                have SP := Lib.hid sp
                have HGR := Lib.hid (And.intro hgr hxl)
                clear sp HST hgr hxl
                go_wp2_with fail
                refine (take_at (SP.out.get 3 rfl) x.ns x.nr x.body (by omega)).mono ?_
                rintro e w5 ⟨⟨v5, p5, rfl, q5, r5⟩, h5, u5⟩
                obtain ⟨T, hT⟩ : ∃ T, T = (r.b.take x.ns x.nr x.body).2 := ⟨_, rfl⟩
                obtain ⟨nt, hnt⟩ : ∃ n, n = T.length := ⟨_, rfl⟩
                have hn1 : nt ≤ 1 := by rw [hnt, hT]; exact C.take_len _ _ _ _
                rw [← hT, ← hnt] at q5
                have HT := Lib.hid (And.intro hT hnt)
                have HRT := Lib.hid q5.texts
                have SP2 := Lib.hid (SP.out.set 3 rfl u5 (fun x hx => .inl hx) (t' := ctlT _ _ ob3) h5 (fun x hx => .inl hx))
                obtain ⟨a5, c5, rfl, -, -⟩ := q5.shape
                clear q5 r5 h5 u5 hT hnt SP c0 c1 c2
                have HO := Lib.hid (SP2.out.get 1 rfl : Own _ _ _ _ _ _ _)
                go_wp2_with (first
                  | (at_builtin; refine wpList_append_Rd _ rfl (.tmp 112) (.tmp 118) 27 rfl 9 i0 _ 1 16 Try.underlying27 hi0 hz0 hz1 hz2 rfl (by decide) _ g2 _ _ (by simp [Act.eval]) HO.out _ nt _ (by simp [Act.eval]) HRT.out (by simp only [maxLen]; omega) (by omega) ?_; intro ao1 cap1 w6 own1 ho1 hin1 hu6; have SP4 := Lib.hid (SP2.out.set 1 rfl hu6 (fun x hx => .inl hx) (t' := ownT 9 1 _ (g2 + nt) _ own1) ho1 hin1); clear ho1 hin1 hu6; generalize Value.slice ao1 (g2 + nt) cap1 = v6 at *))
                go_roundg (nx - (i + 1))
                case rel =>
                  have e : frIn r x = { r with b := (r.b.take x.ns x.nr x.body).1, got := r.got ++ (r.b.take x.ns x.nr x.body).2 } := by unfold frIn; rw [if_neg (by rw [← HRL.out]; omega)]
                  refine ⟨i + 1, g2 + nt, by omega, by go_num, ?_⟩
                  rw [HR.out.2, e]
                  refine ⟨by rw [← HRL.out]; rfl, frSent_length k, ?_, HGR.out.2, ?_⟩
                  · rw [List.length_append, HGR.out.1, ← HT.out.1, ← HT.out.2]
                  · have h := SP4.out
                    rw [show strs r.got ++ strs T = strs (r.got ++ (r.b.take x.ns x.nr x.body).2) by rw [← HT.out.1]; simp [strs]] at h
                    exact ⟨_, _, _, _, _, h⟩
                case measure => omega
            · obtain rfl : i = nx := by omega
              obtain ⟨r, hr⟩ : ∃ r, r = frX q := ⟨_, rfl⟩
              have hrx : (X.take i).foldl frIn (frOutA q) = r := by
                rw [hr, List.take_of_length_le (by rw [HNX.out]; exact Nat.le_refl _), HX.out]; rfl
              rw [hrx]
              rw [hrx] at HST
              have HR : Hid (r.fit ∧ frStep q = frTick (frY r)) := ⟨by rw [hr]; exact HQ.out.1.x, by rw [hr]; rfl⟩
              obtain ⟨-, hgr, oa4, ob4, os4, og4, sp⟩ := HST.out.st
              have SP := Lib.hid sp
              have HGR := Lib.hid hgr
              clear hr hrx sp hgr HST
              obtain ⟨R, hR⟩ : ∃ L, L = r.lost := ⟨_, rfl⟩
              rw [← hR]
              have HRL := Lib.hid hR
              clear hR
              go_wp2_with fail
              refine (out_at (SP.out.get 2 rfl)).mono ?_
              rintro e w5 ⟨⟨v5, p5, rfl, q5, r5⟩, ⟨ob5, h5, g5⟩, u5⟩
              obtain ⟨Y, hY⟩ : ∃ X, X = r.b.out.2 := ⟨_, rfl⟩
              obtain ⟨ny, hny⟩ : ∃ n, n = Y.length := ⟨_, rfl⟩
              have hy42 : ny ≤ 42 := by rw [hny, hY]; exact C.out_len' HR.out.1.ok.b
              rw [← hY, ← hny] at q5
              have HY := Lib.hid hY
              have HNY := Lib.hid hny
              have S2 : Hid (FrS2 w w5 w.heap.size w1.heap.size (frOutB r) (frSent k) k g2 u13 u14 Y ny v5) :=
                ⟨frSent_length k, HGR.out, hny.symm, _, _, _, _, _, SP.out.set_cons 2 rfl u5 (fun x hx => .inl hx) (t' := ctlT _ _ ob5) h5 g5 (s := ownT 30 3 v5 ny (items Y) p5) q5 r5 (h5.ne_own q5 (by decide) (by decide))⟩
              obtain ⟨a5, c5, rfl, -, -⟩ := q5.shape
              clear q5 r5 h5 g5 u5 hY hny SP
              go_wp2_with fail
              go_loopg [21] ny (fun m s21 wy => ∃ (i : Nat), i + m = ny ∧ s21 = .int .i64 i ∧ FrS2 w wy w.heap.size w1.heap.size ((Y.take i).foldl frBack (frOutB r)) (frSent k) k g2 u13 u14 Y ny (.slice a5 ny c5))
              case atStart => exact ⟨0, by omega, rfl, S2.out⟩
              case round =>
                obtain ⟨y, hy, rfl, hst⟩ := hrel
                have HST := Lib.hid hst
                clear hst S2
                by_cases ty : y < ny
                · obtain ⟨z, hz⟩ : ∃ r', r' = (Y.take y).foldl frBack (frOutB r) := ⟨_, rfl⟩
                  obtain ⟨x, hx⟩ : ∃ x, Y[y]? = some x := by
                    have := HNY.out
                    exact ⟨_, List.getElem?_eq_getElem (by omega)⟩
                  have HZ : Hid (z.fit ∧ (Y.take (y + 1)).foldl frBack (frOutB r) = frBack z x) := ⟨by rw [hz]; exact HR.out.1.outB.backs _, by rw [foldl_at frBack _ _ y hx, ← hz]⟩
                  rw [← hz] at HST
                  clear hz
                  have hbs : x.body.size ≤ 1500 := (C.small_out HR.out.1.b).2 x (by rw [← HY.out]; exact List.mem_of_getElem? hx)
                  have hxs := Lib.hid hx
                  clear hx
                  obtain ⟨-, hgr, hxl, ox, oa3, ob3, os3, og3, sp⟩ := HST.out
                  obtain ⟨qx, rfl, c0, c1, c2⟩ := ((sp.get 0 rfl : Own _ _ _ _ _ _ _).rd (items_oneCell Y)).item hxs.out
                  have SP := Lib.hid sp
                  have HGR := Lib.hid (And.intro hgr hxl)
                  clear sp HST hgr hxl
                  go_wp2_with fail
                  refine (take_at (SP.out.get 4 rfl) x.ns x.nr x.body (by omega)).mono ?_
                  rintro e w6 ⟨⟨v6, p6, rfl, q6, r6⟩, h6, u6⟩
                  have SP2 := Lib.hid (SP.out.set 4 rfl u6 (fun x hx => .inl hx) (t' := ctlT _ _ oa3) h6 (fun x hx => .inl hx))
                  obtain ⟨a6, c6, rfl, -, -⟩ := q6.shape
                  clear q6 r6 h6 u6 SP c0 c1 c2
                  go_wp2_with fail
                  go_roundg (ny - (y + 1))
                  case rel =>
                    refine ⟨y + 1, by omega, by go_num, ?_⟩
                    rw [HZ.out.2]
                    exact ⟨frSent_length k, HGR.out.1, HGR.out.2, _, _, _, _, _, SP2.out⟩
                  case measure => omega
                · obtain rfl : y = ny := by omega
                  obtain ⟨z, hz⟩ : ∃ z, z = frY r := ⟨_, rfl⟩
                  have hzx : (Y.take y).foldl frBack (frOutB r) = z := by
                    rw [hz, List.take_of_length_le (by rw [HNY.out]; exact Nat.le_refl _), HY.out]; rfl
                  rw [hzx] at HST
                  have HZ : Hid (frRun (j + 1) p0 = frTick z ∧ z.lost = r.lost) := by
                    refine ⟨by rw [HQ.out.2, HR.out.2, hz], ?_⟩
                    rw [← hzx]
                    have : ∀ (l : List Item) (p : Fair), (l.foldl frBack p).lost = p.lost := by
                      intro l
                      induction l with
                      | nil => intro p; rfl
                      | cons x l ih => intro p; rw [List.foldl_cons, ih]; rfl
                    rw [this]; rfl
                  obtain ⟨-, hgr, oa6, ob6, os6, og6, sp⟩ := HST.out.st
                  have SP := Lib.hid sp
                  have HGR := Lib.hid hgr
                  clear hz hzx sp hgr HST
                  go_wp2_with fail
                  refine (tick_at (SP.out.get 3 rfl)).mono ?_
                  rintro e w7 ⟨rfl, h7, u7⟩
                  have SP2 := Lib.hid (SP.out.set 3 rfl u7 (fun x hx => .inl hx) (t' := ctlT _ _ oa6) h7 (fun x hx => .inl hx))
                  clear h7 u7 SP
                  go_wp2_with fail
                  refine (tick_at (SP2.out.get 2 rfl)).mono ?_
                  rintro e w8 ⟨rfl, h8, u8⟩
                  have SP3 := Lib.hid (SP2.out.set 2 rfl u8 (fun x hx => .inl hx) (t' := ctlT _ _ ob6) h8 (fun x hx => .inl hx))
                  clear h8 u8 SP2
                  go_wp2_with fail
                  go_roundg (400 - (j + 1))
                  case rel =>
                    refine ⟨j + 1, g2, by omega, by go_num, ?_⟩
                    rw [HZ.out.1]
                    exact ⟨by rw [HRL.out, ← HZ.out.2]; rfl, frSent_length k, HGR.out, _, _, _, _, SP3.out⟩
                  case measure => omega
        · obtain rfl : j = 400 := by omega
          obtain ⟨q, hq⟩ : ∃ q, q = frRun 400 p0 := ⟨_, rfl⟩
          rw [← hq] at HE HST
          rw [← hq]
          clear hq
          obtain ⟨-, hgq, oa, ob, os, og, sp⟩ := HST.out
          have SP := Lib.hid sp
          have HG := Lib.hid hgq
          clear sp HST hgq
          obtain ⟨L, hL⟩ : ∃ L, L = q.lost := ⟨_, rfl⟩
          rw [← hL]
          clear hL
          have e5 : decide (q.got = frSent k) = true := by rw [HE.out.2.2.2.2]; simp
          have E5 := Lib.hid e5
          clear e5
          go_wp2_with fail
          refine (alive_any _).mono ?_
          rintro e w3 ⟨rfl, u3⟩
          have SP2 := Lib.hid (SP.out.keep u3)
          clear u3 SP
          go_wp2_with fail
          have t1 := (SP2.out.get 0 rfl : Own _ _ _ _ _ _ _).texts
          have t2 : Rd w3 1 u13 (frSent k).length (strs (frSent k)) := by
            have h := (SP2.out.get 1 rfl : Own _ _ _ _ _ _ _).texts
            have hl := frSent_length k
            generalize frSent k = M at h hl ⊢
            subst hl
            exact h
          rw [← HG.out] at t1
          have T1 := Lib.hid t1
          have T2 := Lib.hid t2
          clear t1 t2
          refine (sameTexts_any q.got (frSent k) _ _ _ T1.out T2.out).mono ?_
          rintro e w4 ⟨rfl, u4⟩
          have SP3 := Lib.hid (SP2.out.keep u4)
          clear u4 SP2
          rw [E5.out]
          go_wp2_with fail
          refine (waiting_at (SP3.out.get 3 rfl)).mono ?_
          rintro e w5 ⟨rfl, rfl⟩
          rw [HE.out.1]
          go_wp2_with fail
          refine (flying_at (SP3.out.get 3 rfl)).mono ?_
          rintro e w5 ⟨rfl, rfl⟩
          rw [HE.out.2.1]
          go_wp2_with fail
          refine (dead_at (SP3.out.get 3 rfl)).mono ?_
          rintro e w5 ⟨rfl, rfl⟩
          rw [HE.out.2.2.1]
          go_wp2_with fail
          refine (dead_at (SP3.out.get 2 rfl)).mono ?_
          rintro e w5 ⟨rfl, rfl⟩
          rw [HE.out.2.2.2.1]
          go_wp2_with fail
          go_ret
          exact ⟨rfl, SP3.out.upd⟩

set_option maxRecDepth 100000 in
set_option maxHeartbeats 2000000 in
theorem ctlFair_walk (window : Int) (_ : (Lit.int .i64 window).wf = true) (first : Int) (_ : (Lit.int .i64 first).wf = true) (n : Int) (_ : (Lit.int .i64 n).wf = true) (lost : Int) (_ : (Lit.int .i64 lost).wf = true) (w : World) :
    Calls Try.prog 7 #[.int .i64 window, .int .i64 first, .int .i64 n, .int .i64 lost] w fun e w' => e = .returned (.bool true) ∧ Below w.heap.size w w' := by
  rename_i g1 g2 g3 g4
  clear g1 g2 g3 g4
  by_cases t1 : window < 1
  rotate_left
  by_cases t2 : 8 < window
  rotate_left
  by_cases t3 : first < 0
  rotate_left
  by_cases t4 : 65535 < first
  rotate_left
  by_cases t5 : n < 0
  rotate_left
  by_cases t6 : 40 < n
  rotate_left
  by_cases t7 : lost < 0
  rotate_left
  by_cases t8 : 3 < lost
  rotate_left
  · obtain ⟨N, rfl⟩ := Int.eq_ofNat_of_zero_le (show 0 ≤ n by omega)
    obtain ⟨L, rfl⟩ := Int.eq_ofNat_of_zero_le (show 0 ≤ lost by omega)
    exact (ctlFair_run window first N L (by omega) (by omega) (by omega) (by omega) w).mono fun e w' ⟨he, hu⟩ => ⟨he, hu.below⟩
  all_goals
    go_enter Try.func7, Try.ntmps7
    go_wp2_with fail
    refine (alive_any _).mono ?_
    rintro e w' ⟨rfl, hu⟩
    go_wp2
    go_ret
    exact ⟨rfl, hu.below⟩
end Go.Proofs.Ytclodmcdimaccaa
