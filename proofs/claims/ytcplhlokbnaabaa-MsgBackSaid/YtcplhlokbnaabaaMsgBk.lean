/- The walk of MsgBack. -/
import Derived.Test.YtcplhlokbnaabaaMsgBP
import Derived.Test.YtcplhlokbnaabaaMsgM
import Derived.Test.YtcplhlokbnaabaaMsgL
import Derived.Test.YtcplhlokbnaabaaCtlIn
namespace Go.Proofs.Ytcplhlokbnaabaa
open Go.RowKit Go.ChangeShapes Go.WideShapes
set_option linter.unusedSimpArgs false
set_option linter.unusedVariables false
set_option maxRecDepth 100000

set_option maxHeartbeats 16000000 in
theorem msgBack_any (c : Cm) (v : Value) (l : Ld) (secret more : ByteArray) (w : World) (hl : AvsAt w v c.l) (hls : ∀ t ∈ c.l, t.val.size ≤ 140737488355328)
    (hb : l.data.size ≤ 140737488355328 ∧ secret.size ≤ 140737488355328 ∧ more.size ≤ 140737488355328) :
    Calls Try.prog 6 #[c.val v, l.agg, .string secret, .string more] w fun e w' => e = .returned (.bool true) ∧ Upd [] w w' := by
  obtain ⟨hb1, hb2, hb3⟩ := hb
  obtain ⟨ao, cap, rfl, -⟩ := id hl
  obtain ⟨n, hn⟩ : ∃ n, c.l.length = n := ⟨_, rfl⟩
  have HLi := Lib.hid (fun W h => lightA_any c.l (.slice ao c.l.length cap) W h hls)
  rw [hn] at hl HLi ⊢
  have HL := Lib.hid hl
  clear hn hl hls
  obtain ⟨A, hA⟩ : ∃ A, A = Obj.cells #[.int .i64 c.t, .int .i64 c.s, .int .i64 c.ns, .int .i64 c.nr, .slice ao n cap] 33 := ⟨_, rfl⟩
  obtain ⟨B, hB⟩ : ∃ B, B = Obj.cells #[.int .i64 l.tunnel, .int .i64 l.session, .bool l.seq, .int .i64 l.ns, .int .i64 l.nr, .string l.data] 42 := ⟨_, rfl⟩
  have A0 : Blk ((w.alloc A).alloc B) w.heap.size 33 #[.int .i64 c.t, .int .i64 c.s, .int .i64 c.ns, .int .i64 c.nr, .slice ao n cap] := by rw [hA]; exact (Blk.new _ _ _).alloc _
  have B0 : Blk ((w.alloc A).alloc B) (w.heap.size + 1) 42 #[.int .i64 l.tunnel, .int .i64 l.session, .bool l.seq, .int .i64 l.ns, .int .i64 l.nr, .string l.data] := by
    have := Blk.new (w.alloc A) 42 #[.int .i64 l.tunnel, .int .i64 l.session, .bool l.seq, .int .i64 l.ns, .int .i64 l.nr, .string l.data]
    rw [World.size_alloc] at this
    rw [hB]
    exact this
  have U0 : Hid (Upd [] w ((w.alloc A).alloc B)) := ((Upd.refl [] w).alloc A).alloc B
  have HC : Hid (∀ W, Upd [] ((w.alloc A).alloc B) W → (W.cell? ⟨w.heap.size, 0, none⟩ = some (.int .i64 c.t) ∧ W.cell? ⟨w.heap.size, 1, none⟩ = some (.int .i64 c.s) ∧ W.cell? ⟨w.heap.size, 2, none⟩ = some (.int .i64 c.ns) ∧ W.cell? ⟨w.heap.size, 3, none⟩ = some (.int .i64 c.nr) ∧ W.cell? ⟨w.heap.size, 4, none⟩ = some (.slice ao n cap)) ∧
      W.cell? ⟨w.heap.size + 1, 0, none⟩ = some (.int .i64 l.tunnel) ∧ W.cell? ⟨w.heap.size + 1, 1, none⟩ = some (.int .i64 l.session) ∧ W.cell? ⟨w.heap.size + 1, 2, none⟩ = some (.bool l.seq) ∧ W.cell? ⟨w.heap.size + 1, 3, none⟩ = some (.int .i64 l.ns) ∧ W.cell? ⟨w.heap.size + 1, 4, none⟩ = some (.int .i64 l.nr) ∧ W.cell? ⟨w.heap.size + 1, 5, none⟩ = some (.string l.data)) := fun W hu =>
    ⟨⟨(A0.upd hu (by simp)).cell 0, (A0.upd hu (by simp)).cell 1, (A0.upd hu (by simp)).cell 2, (A0.upd hu (by simp)).cell 3, (A0.upd hu (by simp)).cell 4⟩, (B0.upd hu (by simp)).cell 0, (B0.upd hu (by simp)).cell 1, (B0.upd hu (by simp)).cell 2, (B0.upd hu (by simp)).cell 3, (B0.upd hu (by simp)).cell 4, (B0.upd hu (by simp)).cell 5⟩
  have HA := Lib.hid hA
  have HB := Lib.hid hB
  clear hA hB A0 B0
  have hc := HC.out _ (Upd.refl [] ((w.alloc A).alloc B))
  cases hli : LightA c.l
  · rw [hli] at HLi
    clear hli
    go_enter Try.func6, Try.ntmps6
    simp only [Cm.val, Ld.agg]
    go_wp2_with fail
    rw [← HA.out, ← HB.out]
    clear HA HB
    generalize (w.alloc A).alloc B = wA at *
    go_wp2_with fail
    refine (HLi.out _ (HL.out.upd U0.out)).mono ?_
    rintro e w1 ⟨rfl, hu1⟩
    have HU1 := Lib.hid hu1
    clear hu1 hc
    have hc := HC.out _ HU1.out
    go_wp2_with fail
    refine (alive_any _).mono ?_
    rintro e wz ⟨rfl, huz⟩
    go_wp2_with fail
    go_ret
    exact ⟨rfl, U0.out.trans (HU1.out.trans huz)⟩
  rw [hli] at HLi
  clear hli
  by_cases t0 : 3000 < l.data.size + more.size + secret.size
  · have t0' : (3000 : Int) < (l.data.size : Int) + more.size + secret.size := by omega
    go_enter Try.func6, Try.ntmps6
    simp only [Cm.val, Ld.agg]
    go_wp2_with fail
    rw [← HA.out, ← HB.out]
    clear HA HB
    generalize (w.alloc A).alloc B = wA at *
    go_wp2_with fail
    refine (HLi.out _ (HL.out.upd U0.out)).mono ?_
    rintro e w1 ⟨rfl, hu1⟩
    have HU1 := Lib.hid hu1
    clear hu1 hc
    have hc := HC.out _ HU1.out
    go_wp2_with fail
    refine (alive_any _).mono ?_
    rintro e wz ⟨rfl, huz⟩
    go_wp2_with fail
    go_ret
    exact ⟨rfl, U0.out.trans (HU1.out.trans huz)⟩
  have t0' : ¬ (3000 : Int) < (l.data.size : Int) + more.size + secret.size := by omega
  have HP := Lib.hid (fun W h => msgPutM_any c (.slice ao n cap) secret W h (by omega))
  have hp1 := fun h => @getM_putM c secret h more
  have hp2 := @putM_ctl c secret
  have HPL := Lib.hid (fun W => putLoad_any l (by simp only [maxLen]; omega) W)
  have hl1 := fun h => @Ld.read l h more secret
  have hl2 := fun h => @Ld.read l h ⟨#[49, 50, 51, 52, 53, 54, 55, 56, 57, 48, 49, 50]⟩ secret
  obtain ⟨s, e, hse⟩ : ∃ s e, putM c secret = (s, e) := ⟨_, _, rfl⟩
  obtain ⟨t, h, hth⟩ : ∃ s e, l.put = (s, e) := ⟨_, _, rfl⟩
  rw [hse] at HP hp1 hp2
  rw [hth] at HPL hl1 hl2
  dsimp only at HP hp1 hp2 HPL hl1 hl2
  simp only [Cm.val] at HP
  simp only [Ld.agg] at HPL
  clear hse hth
  by_cases te : e = 0
  · subst e
    have h1 := hp1 rfl
    obtain ⟨h2, h3, h4⟩ := hp2 rfl
    have hadd := fun W => run_string_add_sum (P := Try.prog) W s more (by omega)
    have HGM := Lib.hid (fun W => msgGet_any (s ++ more) secret (by rw [ByteArray.size_append]; omega) (by omega) W)
    rw [h1] at HGM
    have HGL := Lib.hid (fun W => getLoad_any s (by omega) W)
    have HIC := Lib.hid (fun W => isCtl_any s (by simp only [maxLen]; omega) W)
    rw [h2] at HIC
    obtain ⟨g, ge, hge⟩ : ∃ g ge, getL s = (g, ge) := ⟨_, _, rfl⟩
    rw [hge] at HGL h3
    dsimp only at HGL h3
    subst h3
    simp only [Ld.agg] at HGL
    obtain ⟨sm, hsm⟩ : ∃ sm, s ++ more = sm := ⟨_, rfl⟩
    rw [hsm] at hadd HGM
    clear h1 h2 h4 hge hsm
    by_cases th : h = 0
    · subst h
      obtain ⟨k1, k2, k3, k4, k5⟩ := hl1 rfl
      obtain ⟨m1, m2, m3, m4, m5⟩ := hl2 rfl
      have hz12 : (⟨#[49, 50, 51, 52, 53, 54, 55, 56, 57, 48, 49, 50]⟩ : ByteArray).size = 12 := rfl
      have m6 := m3 (by rw [ByteArray.size_append]; omega)
      have hadd2 := fun W => run_string_add_sum (P := Try.prog) W t more (by omega)
      have hadd3 := fun W => run_string_add_sum (P := Try.prog) W t ⟨#[49, 50, 51, 52, 53, 54, 55, 56, 57, 48, 49, 50]⟩ (by omega)
      have HQL := Lib.hid (fun W => getLoad_any (t ++ more) (by rw [ByteArray.size_append]; omega) W)
      rw [k1] at HQL
      dsimp only at HQL
      simp only [Ld.agg] at HQL
      have HQM := Lib.hid (fun W => msgGet_any (t ++ ⟨#[49, 50, 51, 52, 53, 54, 55, 56, 57, 48, 49, 50]⟩) secret (by rw [ByteArray.size_append]; omega) (by omega) W)
      have HIT := Lib.hid (fun W => isCtl_any t (by simp only [maxLen]; omega) W)
      rw [k2] at HIT
      obtain ⟨q, qe, hqe⟩ : ∃ g ge, getM (t ++ ⟨#[49, 50, 51, 52, 53, 54, 55, 56, 57, 48, 49, 50]⟩) secret = (g, ge) := ⟨_, _, rfl⟩
      rw [hqe] at HQM m6
      dsimp only at m6
      subst m6
      obtain ⟨tm, htm⟩ : ∃ sm, t ++ more = sm := ⟨_, rfl⟩
      obtain ⟨t12, ht12⟩ : ∃ sm, t ++ ⟨#[49, 50, 51, 52, 53, 54, 55, 56, 57, 48, 49, 50]⟩ = sm := ⟨_, rfl⟩
      rw [htm] at hadd2 HQL
      rw [ht12] at hadd3 HQM
      clear k1 k2 k3 k4 k5 m1 m2 m3 m4 m5 hz12 hqe htm ht12
      clear hp1 hp2 hl1 hl2
      go_enter Try.func6, Try.ntmps6
      simp only [Cm.val, Ld.agg]
      go_wp2_with fail
      rw [← HA.out, ← HB.out]
      clear HA HB
      generalize (w.alloc A).alloc B = wA at *
      go_wp2_with fail
      refine (HLi.out _ (HL.out.upd U0.out)).mono ?_
      rintro e w1 ⟨rfl, hu1⟩
      have HU1 := Lib.hid hu1
      clear hu1 hc
      have hc := HC.out _ HU1.out
      go_wp2_with fail
      refine (HP.out _ (HL.out.upd (U0.out.trans HU1.out))).mono ?_
      rintro e2 w2 ⟨rfl, hu2⟩
      have HU2 := Lib.hid (HU1.out.trans hu2)
      clear hu2 hc
      have hc := HC.out _ HU2.out
      go_wp2_with fail
      refine (HGM.out _).mono ?_
      rintro e3 w3 ⟨⟨v3, own3, rfl, ho3, -, hu3⟩⟩
      obtain ⟨a3, c3, rfl, -, -⟩ := ho3.shape
      have HM3 := Lib.hid (AvsAt.of_own ho3)
      have HU3 := Lib.hid (HU2.out.trans hu3)
      simp only [Cm.val] at HM3 ⊢
      obtain ⟨n3, hn3⟩ : ∃ n3, c.l.length = n3 := ⟨_, rfl⟩
      rw [hn3] at HM3 ⊢
      clear hu3 ho3 hc hn3
      have X3 := Blk.new w3 33 #[.int .i64 c.t, .int .i64 c.s, .int .i64 c.ns, .int .i64 c.nr, .slice a3 n3 c3]
      have HX3 := Lib.hid X3
      have HU3' := Lib.hid (HU3.out.alloc (Obj.cells #[.int .i64 c.t, .int .i64 c.s, .int .i64 c.ns, .int .i64 c.nr, .slice a3 n3 c3] 33))
      have HM3' := Lib.hid (HM3.out.upd ((Upd.refl [] w3).alloc (Obj.cells #[.int .i64 c.t, .int .i64 c.s, .int .i64 c.ns, .int .i64 c.nr, .slice a3 n3 c3] 33)))
      clear X3 HM3 HU3
      have hc := HC.out _ HU3'.out
      go_wp2_with fail
      refine (HGL.out _).mono ?_
      rintro e4 w4 ⟨rfl, hu4⟩
      have HU4 := Lib.hid (HU3'.out.trans hu4)
      have HX4 := Lib.hid (HX3.out.upd hu4 (by simp))
      have HM4 := Lib.hid (HM3'.out.upd hu4)
      clear hu4 hc HX3 HM3' HU3'
      have HU4' := Lib.hid (HU4.out.alloc (Obj.cells #[.int .i64 g.tunnel, .int .i64 g.session, .bool g.seq, .int .i64 g.ns, .int .i64 g.nr, .string g.data] 42))
      have HX4' := HX4.out.alloc (Obj.cells #[.int .i64 g.tunnel, .int .i64 g.session, .bool g.seq, .int .i64 g.ns, .int .i64 g.nr, .string g.data] 42)
      have HM4' := Lib.hid (HM4.out.upd ((Upd.refl [] w4).alloc (Obj.cells #[.int .i64 g.tunnel, .int .i64 g.session, .bool g.seq, .int .i64 g.ns, .int .i64 g.nr, .string g.data] 42)))
      have hc := HC.out _ HU4'.out
      have x0 := HX4'.cell 0
      have x1 := HX4'.cell 1
      have x2 := HX4'.cell 2
      have x3 := HX4'.cell 3
      have x4 := HX4'.cell 4
      simp only [List.size_toArray, List.length_cons, List.length_nil, List.getElem?_toArray, List.getElem?_cons_zero, List.getElem?_cons_succ] at x0 x1 x2 x3 x4
      have HSC := Lib.hid (sameCtl_eq c (.slice ao n cap) (.slice a3 n3 c3) _ (HL.out.upd (U0.out.trans HU4'.out)) HM4'.out)
      simp only [Cm.val] at HSC
      clear HX4'
      go_wp2_with fail
      clear x0 x1 x2 x3 x4
      refine HSC.out.mono ?_
      rintro e5 w5 ⟨rfl, hu5⟩
      have HU5 := Lib.hid (HU4'.out.trans hu5)
      clear hu5 hc HX4 HM4 HM4' HSC HU4 HU4'
      have hc := HC.out _ HU5.out
      go_wp2_with fail
      refine (HIC.out _).mono ?_
      rintro e6 w6 ⟨rfl, rfl⟩
      go_wp2_with fail
      refine (HPL.out _).mono ?_
      rintro e7 w7 ⟨rfl, hu7⟩
      have HU7 := Lib.hid (HU5.out.trans hu7)
      clear hu7 hc
      have hc := HC.out _ HU7.out
      go_wp2_with fail
      refine (HQL.out _).mono ?_
      rintro e8 w8 ⟨rfl, hu8⟩
      have HU8 := Lib.hid (HU7.out.trans hu8)
      clear hu8 hc
      have Y8 := Blk.new w8 42 #[.int .i64 l.tunnel, .int .i64 l.session, .bool l.seq, .int .i64 l.ns, .int .i64 l.nr, .string l.data]
      have HY8 := Lib.hid Y8
      have HU8' := Lib.hid (HU8.out.alloc (Obj.cells #[.int .i64 l.tunnel, .int .i64 l.session, .bool l.seq, .int .i64 l.ns, .int .i64 l.nr, .string l.data] 42))
      clear Y8
      have hc := HC.out _ HU8'.out
      go_wp2_with fail
      refine (HQM.out _).mono ?_
      rintro e9 w9 ⟨⟨v9, own9, rfl, ho9, -, hu9⟩⟩
      obtain ⟨a9, c9, rfl, -, -⟩ := ho9.shape
      simp only [Cm.val]
      have HU9 := Lib.hid (HU8'.out.trans hu9)
      have HY9 := Lib.hid (HY8.out.upd hu9 (by simp))
      obtain ⟨n9, hn9⟩ : ∃ n9, q.l.length = n9 := ⟨_, rfl⟩
      rw [hn9]
      clear hu9 ho9 hn9 hc HY8 HU8'
      have HU9' := Lib.hid (HU9.out.alloc (Obj.cells #[.int .i64 q.t, .int .i64 q.s, .int .i64 q.ns, .int .i64 q.nr, .slice a9 n9 c9] 33))
      have Y9 := HY9.out.alloc (Obj.cells #[.int .i64 q.t, .int .i64 q.s, .int .i64 q.ns, .int .i64 q.nr, .slice a9 n9 c9] 33)
      have y0 := Y9.cell 0
      have y1 := Y9.cell 1
      have y2 := Y9.cell 2
      have y3 := Y9.cell 3
      have y4 := Y9.cell 4
      have y5 := Y9.cell 5
      simp only [List.size_toArray, List.length_cons, List.length_nil, List.getElem?_toArray, List.getElem?_cons_zero, List.getElem?_cons_succ] at y0 y1 y2 y3 y4 y5
      clear Y9
      have hc := HC.out _ HU9'.out
      go_wp2_with fail
      clear y0 y1 y2 y3 y4 y5
      refine (HIT.out _).mono ?_
      rintro e10 w10 ⟨rfl, rfl⟩
      go_wp2_with fail
      refine (alive_any _).mono ?_
      rintro e wz ⟨rfl, huz⟩
      go_wp2_with fail
      go_ret
      exact ⟨rfl, U0.out.trans (HU9'.out.trans huz)⟩
    · have h' : (h == 0) = false := by simpa using th
      clear th
      clear hp1 hp2 hl1 hl2
      go_enter Try.func6, Try.ntmps6
      simp only [Cm.val, Ld.agg]
      go_wp2_with fail
      rw [← HA.out, ← HB.out]
      clear HA HB
      generalize (w.alloc A).alloc B = wA at *
      go_wp2_with fail
      refine (HLi.out _ (HL.out.upd U0.out)).mono ?_
      rintro e w1 ⟨rfl, hu1⟩
      have HU1 := Lib.hid hu1
      clear hu1 hc
      have hc := HC.out _ HU1.out
      go_wp2_with fail
      refine (HP.out _ (HL.out.upd (U0.out.trans HU1.out))).mono ?_
      rintro e2 w2 ⟨rfl, hu2⟩
      have HU2 := Lib.hid (HU1.out.trans hu2)
      clear hu2 hc
      have hc := HC.out _ HU2.out
      go_wp2_with fail
      refine (HGM.out _).mono ?_
      rintro e3 w3 ⟨⟨v3, own3, rfl, ho3, -, hu3⟩⟩
      obtain ⟨a3, c3, rfl, -, -⟩ := ho3.shape
      have HM3 := Lib.hid (AvsAt.of_own ho3)
      have HU3 := Lib.hid (HU2.out.trans hu3)
      simp only [Cm.val] at HM3 ⊢
      obtain ⟨n3, hn3⟩ : ∃ n3, c.l.length = n3 := ⟨_, rfl⟩
      rw [hn3] at HM3 ⊢
      clear hu3 ho3 hc hn3
      have X3 := Blk.new w3 33 #[.int .i64 c.t, .int .i64 c.s, .int .i64 c.ns, .int .i64 c.nr, .slice a3 n3 c3]
      have HX3 := Lib.hid X3
      have HU3' := Lib.hid (HU3.out.alloc (Obj.cells #[.int .i64 c.t, .int .i64 c.s, .int .i64 c.ns, .int .i64 c.nr, .slice a3 n3 c3] 33))
      have HM3' := Lib.hid (HM3.out.upd ((Upd.refl [] w3).alloc (Obj.cells #[.int .i64 c.t, .int .i64 c.s, .int .i64 c.ns, .int .i64 c.nr, .slice a3 n3 c3] 33)))
      clear X3 HM3 HU3
      have hc := HC.out _ HU3'.out
      go_wp2_with fail
      refine (HGL.out _).mono ?_
      rintro e4 w4 ⟨rfl, hu4⟩
      have HU4 := Lib.hid (HU3'.out.trans hu4)
      have HX4 := Lib.hid (HX3.out.upd hu4 (by simp))
      have HM4 := Lib.hid (HM3'.out.upd hu4)
      clear hu4 hc HX3 HM3' HU3'
      have HU4' := Lib.hid (HU4.out.alloc (Obj.cells #[.int .i64 g.tunnel, .int .i64 g.session, .bool g.seq, .int .i64 g.ns, .int .i64 g.nr, .string g.data] 42))
      have HX4' := HX4.out.alloc (Obj.cells #[.int .i64 g.tunnel, .int .i64 g.session, .bool g.seq, .int .i64 g.ns, .int .i64 g.nr, .string g.data] 42)
      have HM4' := Lib.hid (HM4.out.upd ((Upd.refl [] w4).alloc (Obj.cells #[.int .i64 g.tunnel, .int .i64 g.session, .bool g.seq, .int .i64 g.ns, .int .i64 g.nr, .string g.data] 42)))
      have hc := HC.out _ HU4'.out
      have x0 := HX4'.cell 0
      have x1 := HX4'.cell 1
      have x2 := HX4'.cell 2
      have x3 := HX4'.cell 3
      have x4 := HX4'.cell 4
      simp only [List.size_toArray, List.length_cons, List.length_nil, List.getElem?_toArray, List.getElem?_cons_zero, List.getElem?_cons_succ] at x0 x1 x2 x3 x4
      have HSC := Lib.hid (sameCtl_eq c (.slice ao n cap) (.slice a3 n3 c3) _ (HL.out.upd (U0.out.trans HU4'.out)) HM4'.out)
      simp only [Cm.val] at HSC
      clear HX4'
      go_wp2_with fail
      clear x0 x1 x2 x3 x4
      refine HSC.out.mono ?_
      rintro e5 w5 ⟨rfl, hu5⟩
      have HU5 := Lib.hid (HU4'.out.trans hu5)
      clear hu5 hc HX4 HM4 HM4' HSC HU4 HU4'
      have hc := HC.out _ HU5.out
      go_wp2_with fail
      refine (HIC.out _).mono ?_
      rintro e6 w6 ⟨rfl, rfl⟩
      go_wp2_with fail
      refine (HPL.out _).mono ?_
      rintro e7 w7 ⟨rfl, hu7⟩
      have HU7 := Lib.hid (HU5.out.trans hu7)
      clear hu7 hc
      have hc := HC.out _ HU7.out
      go_wp2_with fail
      refine (alive_any _).mono ?_
      rintro e wz ⟨rfl, huz⟩
      go_wp2_with fail
      go_ret
      exact ⟨rfl, U0.out.trans (HU7.out.trans huz)⟩
  · by_cases th : h = 0
    · subst h
      obtain ⟨k1, k2, k3, k4, k5⟩ := hl1 rfl
      obtain ⟨m1, m2, m3, m4, m5⟩ := hl2 rfl
      have hz12 : (⟨#[49, 50, 51, 52, 53, 54, 55, 56, 57, 48, 49, 50]⟩ : ByteArray).size = 12 := rfl
      have m6 := m3 (by rw [ByteArray.size_append]; omega)
      have hadd2 := fun W => run_string_add_sum (P := Try.prog) W t more (by omega)
      have hadd3 := fun W => run_string_add_sum (P := Try.prog) W t ⟨#[49, 50, 51, 52, 53, 54, 55, 56, 57, 48, 49, 50]⟩ (by omega)
      have HQL := Lib.hid (fun W => getLoad_any (t ++ more) (by rw [ByteArray.size_append]; omega) W)
      rw [k1] at HQL
      dsimp only at HQL
      simp only [Ld.agg] at HQL
      have HQM := Lib.hid (fun W => msgGet_any (t ++ ⟨#[49, 50, 51, 52, 53, 54, 55, 56, 57, 48, 49, 50]⟩) secret (by rw [ByteArray.size_append]; omega) (by omega) W)
      have HIT := Lib.hid (fun W => isCtl_any t (by simp only [maxLen]; omega) W)
      rw [k2] at HIT
      obtain ⟨q, qe, hqe⟩ : ∃ g ge, getM (t ++ ⟨#[49, 50, 51, 52, 53, 54, 55, 56, 57, 48, 49, 50]⟩) secret = (g, ge) := ⟨_, _, rfl⟩
      rw [hqe] at HQM m6
      dsimp only at m6
      subst m6
      obtain ⟨tm, htm⟩ : ∃ sm, t ++ more = sm := ⟨_, rfl⟩
      obtain ⟨t12, ht12⟩ : ∃ sm, t ++ ⟨#[49, 50, 51, 52, 53, 54, 55, 56, 57, 48, 49, 50]⟩ = sm := ⟨_, rfl⟩
      rw [htm] at hadd2 HQL
      rw [ht12] at hadd3 HQM
      clear k1 k2 k3 k4 k5 m1 m2 m3 m4 m5 hz12 hqe htm ht12
      have e' : (e == 0) = false := by simpa using te
      clear te
      clear hp1 hp2 hl1 hl2
      go_enter Try.func6, Try.ntmps6
      simp only [Cm.val, Ld.agg]
      go_wp2_with fail
      rw [← HA.out, ← HB.out]
      clear HA HB
      generalize (w.alloc A).alloc B = wA at *
      go_wp2_with fail
      refine (HLi.out _ (HL.out.upd U0.out)).mono ?_
      rintro e w1 ⟨rfl, hu1⟩
      have HU1 := Lib.hid hu1
      clear hu1 hc
      have hc := HC.out _ HU1.out
      go_wp2_with fail
      refine (HP.out _ (HL.out.upd (U0.out.trans HU1.out))).mono ?_
      rintro e2 w2 ⟨rfl, hu2⟩
      have HU2 := Lib.hid (HU1.out.trans hu2)
      clear hu2 hc
      have hc := HC.out _ HU2.out
      go_wp2_with fail
      have HU5 := Lib.hid HU2.out
      refine (HPL.out _).mono ?_
      rintro e7 w7 ⟨rfl, hu7⟩
      have HU7 := Lib.hid (HU5.out.trans hu7)
      clear hu7 hc
      have hc := HC.out _ HU7.out
      go_wp2_with fail
      refine (HQL.out _).mono ?_
      rintro e8 w8 ⟨rfl, hu8⟩
      have HU8 := Lib.hid (HU7.out.trans hu8)
      clear hu8 hc
      have Y8 := Blk.new w8 42 #[.int .i64 l.tunnel, .int .i64 l.session, .bool l.seq, .int .i64 l.ns, .int .i64 l.nr, .string l.data]
      have HY8 := Lib.hid Y8
      have HU8' := Lib.hid (HU8.out.alloc (Obj.cells #[.int .i64 l.tunnel, .int .i64 l.session, .bool l.seq, .int .i64 l.ns, .int .i64 l.nr, .string l.data] 42))
      clear Y8
      have hc := HC.out _ HU8'.out
      go_wp2_with fail
      refine (HQM.out _).mono ?_
      rintro e9 w9 ⟨⟨v9, own9, rfl, ho9, -, hu9⟩⟩
      obtain ⟨a9, c9, rfl, -, -⟩ := ho9.shape
      simp only [Cm.val]
      have HU9 := Lib.hid (HU8'.out.trans hu9)
      have HY9 := Lib.hid (HY8.out.upd hu9 (by simp))
      obtain ⟨n9, hn9⟩ : ∃ n9, q.l.length = n9 := ⟨_, rfl⟩
      rw [hn9]
      clear hu9 ho9 hn9 hc HY8 HU8'
      have HU9' := Lib.hid (HU9.out.alloc (Obj.cells #[.int .i64 q.t, .int .i64 q.s, .int .i64 q.ns, .int .i64 q.nr, .slice a9 n9 c9] 33))
      have Y9 := HY9.out.alloc (Obj.cells #[.int .i64 q.t, .int .i64 q.s, .int .i64 q.ns, .int .i64 q.nr, .slice a9 n9 c9] 33)
      have y0 := Y9.cell 0
      have y1 := Y9.cell 1
      have y2 := Y9.cell 2
      have y3 := Y9.cell 3
      have y4 := Y9.cell 4
      have y5 := Y9.cell 5
      simp only [List.size_toArray, List.length_cons, List.length_nil, List.getElem?_toArray, List.getElem?_cons_zero, List.getElem?_cons_succ] at y0 y1 y2 y3 y4 y5
      clear Y9
      have hc := HC.out _ HU9'.out
      go_wp2_with fail
      clear y0 y1 y2 y3 y4 y5
      refine (HIT.out _).mono ?_
      rintro e10 w10 ⟨rfl, rfl⟩
      go_wp2_with fail
      refine (alive_any _).mono ?_
      rintro e wz ⟨rfl, huz⟩
      go_wp2_with fail
      go_ret
      exact ⟨rfl, U0.out.trans (HU9'.out.trans huz)⟩
    · have e' : (e == 0) = false := by simpa using te
      clear te
      have h' : (h == 0) = false := by simpa using th
      clear th
      clear hp1 hp2 hl1 hl2
      go_enter Try.func6, Try.ntmps6
      simp only [Cm.val, Ld.agg]
      go_wp2_with fail
      rw [← HA.out, ← HB.out]
      clear HA HB
      generalize (w.alloc A).alloc B = wA at *
      go_wp2_with fail
      refine (HLi.out _ (HL.out.upd U0.out)).mono ?_
      rintro e w1 ⟨rfl, hu1⟩
      have HU1 := Lib.hid hu1
      clear hu1 hc
      have hc := HC.out _ HU1.out
      go_wp2_with fail
      refine (HP.out _ (HL.out.upd (U0.out.trans HU1.out))).mono ?_
      rintro e2 w2 ⟨rfl, hu2⟩
      have HU2 := Lib.hid (HU1.out.trans hu2)
      clear hu2 hc
      have hc := HC.out _ HU2.out
      go_wp2_with fail
      have HU5 := Lib.hid HU2.out
      refine (HPL.out _).mono ?_
      rintro e7 w7 ⟨rfl, hu7⟩
      have HU7 := Lib.hid (HU5.out.trans hu7)
      clear hu7 hc
      have hc := HC.out _ HU7.out
      go_wp2_with fail
      refine (alive_any _).mono ?_
      rintro e wz ⟨rfl, huz⟩
      go_wp2_with fail
      go_ret
      exact ⟨rfl, U0.out.trans (HU7.out.trans huz)⟩

theorem array6 {α : Type} {cs : Array α} (h : cs.size = 6) : ∃ c0 c1 c2 c3 c4 c5, cs = #[c0, c1, c2, c3, c4, c5] := by
  obtain ⟨l⟩ := cs
  match l, h with
  | [c0, c1, c2, c3, c4, c5], _ => exact ⟨c0, c1, c2, c3, c4, c5, rfl⟩
theorem open_six {H : Type} {enc : TypeId × Value → H} {P : Program} {w : World} {base b0 : Nat} {spare : Nat → Bool} {held : Bool} {r : Reach} {t : TypeId} {f0 f1 f2 f3 f4 f5 : Field} {v : Value} {d : DataW H} {p : List MemPlace}
    (hs : P.underlying t = some (.struct #[f0, f1, f2, f3, f4, f5])) (hone : Go.Deep.oneCellFields P #[f0, f1, f2, f3, f4, f5] = true) (hC : P.cellsOf t = 6)
    (hv : Value.okWide P w r b0 t v) (h : DataW.Trod enc P w base spare held t v d p) :
    ∃ (v0 v1 v2 v3 v4 v5 : Value) (y0 y1 y2 y3 y4 y5 : DataW H × List MemPlace) (n : Nat), v = .agg #[v0, v1, v2, v3, v4, v5] ∧ d = .agg [y0.1, y1.1, y2.1, y3.1, y4.1, y5.1] ∧
      DataW.trod enc P w base spare held n f0.type [v0] = some y0 ∧ DataW.trod enc P w base spare held n f1.type [v1] = some y1 ∧ DataW.trod enc P w base spare held n f2.type [v2] = some y2 ∧ DataW.trod enc P w base spare held n f3.type [v3] = some y3 ∧ DataW.trod enc P w base spare held n f4.type [v4] = some y4 ∧ DataW.trod enc P w base spare held n f5.type [v5] = some y5 := by
  obtain ⟨cs, rfl, hsz⟩ := okWide_struct hs hv
  obtain ⟨c0, c1, c2, c3, c4, c5, rfl⟩ := array6 (hsz.trans hC)
  obtain ⟨fuel, hf⟩ := h
  obtain ⟨xs, n, _, hx, hl, hlen, hg⟩ := DataW.trod_struct hs hf
  obtain ⟨o0, k0⟩ := Go.Deep.hone_of hone 0 f0 rfl
  obtain ⟨o1, k1⟩ := Go.Deep.hone_of hone 1 f1 rfl
  obtain ⟨o2, k2⟩ := Go.Deep.hone_of hone 2 f2 rfl
  obtain ⟨o3, k3⟩ := Go.Deep.hone_of hone 3 f3 rfl
  obtain ⟨o4, k4⟩ := Go.Deep.hone_of hone 4 f4 rfl
  obtain ⟨o5, k5⟩ := Go.Deep.hone_of hone 5 f5 rfl
  match xs, hlen with
  | [y0, y1, y2, y3, y4, y5], _ =>
    simp only [Prod.mk.injEq] at hx
    have g0 := hg 0 f0 rfl
    have g1 := hg 1 f1 rfl
    have g2 := hg 2 f2 rfl
    have g3 := hg 3 f3 rfl
    have g4 := hg 4 f4 rfl
    have g5 := hg 5 f5 rfl
    exact ⟨c0, c1, c2, c3, c4, c5, y0, y1, y2, y3, y4, y5, n, rfl, by simpa using hx.1, by simpa [Value.cells, o0, k0] using g0, by simpa [Value.cells, o1, k1] using g1, by simpa [Value.cells, o2, k2] using g2, by simpa [Value.cells, o3, k3] using g3, by simpa [Value.cells, o4, k4] using g4, by simpa [Value.cells, o5, k5] using g5⟩
theorem load_in {H : Type} {enc : TypeId × Value → H} {W : World} {v : Value} {d : DataW H} {p : List MemPlace} {base : Nat}
    (h : DataW.Trod enc Try.prog W 0 (fun _ => true) true 42 v d p) (o : Value.okWide Try.prog W .any base 42 v) (hw : Wt Try.prog 42 d) :
    ∃ l : Ld, v = l.agg ∧ l.data.size ≤ 140737488355328 := by
  obtain ⟨c0, c1, c2, c3, c4, c5, y0, y1, y2, y3, y4, y5, n, rfl, rfl, g0, g1, g2, g3, g4, g5⟩ := open_six Try.underlying42 (by kernel_rfl) (by kernel_rfl) o h
  obtain ⟨a0, e0, _, _⟩ := DataW.trod_int Try.underlying3 g0
  obtain ⟨a1, e1, _, _⟩ := DataW.trod_int Try.underlying3 g1
  obtain ⟨a2, e2, _⟩ := DataW.trod_bool Try.underlying4 g2
  obtain ⟨a3, e3, _, _⟩ := DataW.trod_int Try.underlying3 g3
  obtain ⟨a4, e4, _, _⟩ := DataW.trod_int Try.underlying3 g4
  obtain ⟨a5, e5, h5, _⟩ := DataW.trod_string Try.underlying9 g5
  simp only [List.cons.injEq, and_true] at e0 e1 e2 e3 e4 e5
  subst e0 e1 e2 e3 e4 e5
  have h6 := hw.part Try.underlying42 (i := 5) (d := y5.1) rfl rfl
  rw [h5] at h6
  exact ⟨⟨a0, a1, a2, a3, a4, a5⟩, rfl, Nat.le_trans h6.string reach_le⟩
theorem str_in {H : Type} {enc : TypeId × Value → H} {W : World} {v : Value} {d : DataW H} {p : List MemPlace} {base : Nat}
    (h : DataW.Trod enc Try.prog W 0 (fun _ => true) true 9 v d p) (o : Value.okWide Try.prog W .any base 9 v) (hw : Wt Try.prog 9 d) :
    ∃ s : ByteArray, v = .string s ∧ s.size ≤ 140737488355328 := by
  obtain ⟨s, rfl, rfl, rfl, _⟩ := Go.ChangeMaps.open_string Try.underlying9 o h
  exact ⟨s, rfl, Nat.le_trans hw.string reach_le⟩
theorem msgBack_walk {H : Type} {enc : TypeId × Value → H} {v0 v1 v2 v3 : Value} {d0 d1 d2 d3 : DataW H} {p0 p1 p2 p3 : List MemPlace} {W : World} {base : Nat}
    (h0 : DataW.Trod enc Try.prog W 0 (fun _ => true) true 33 v0 d0 p0) (o0 : Value.okWide Try.prog W .any base 33 v0)
    (h1 : DataW.Trod enc Try.prog W 0 (fun _ => true) true 42 v1 d1 p1) (o1 : Value.okWide Try.prog W .any base 42 v1)
    (h2 : DataW.Trod enc Try.prog W 0 (fun _ => true) true 9 v2 d2 p2) (o2 : Value.okWide Try.prog W .any base 9 v2)
    (h3 : DataW.Trod enc Try.prog W 0 (fun _ => true) true 9 v3 d3 p3) (o3 : Value.okWide Try.prog W .any base 9 v3)
    (sz : (DataW.weightsEach Try.prog [33, 42, 9, 9] [d0, d1, d2, d3]).all (· ≤ reachBytes) = true) :
    Calls Try.prog 6 #[v0, v1, v2, v3] W fun e w' => e = .returned (.bool true) ∧ Below W.heap.size W w' := by
  obtain ⟨t, s, ns, nr, u, l, rfl, hl, hls⟩ := ctl_in h0 o0 (wt_each sz (j := 0) rfl rfl)
  obtain ⟨x, rfl, hx⟩ := load_in h1 o1 (wt_each sz (j := 1) rfl rfl)
  obtain ⟨s2, rfl, hs2⟩ := str_in h2 o2 (wt_each sz (j := 2) rfl rfl)
  obtain ⟨s3, rfl, hs3⟩ := str_in h3 o3 (wt_each sz (j := 3) rfl rfl)
  exact (msgBack_any ⟨t, s, ns, nr, l⟩ u x s2 s3 W hl hls ⟨hx, hs2, hs3⟩).mono fun e W' ⟨he, hu⟩ => ⟨he, hu.below⟩
end Go.Proofs.Ytcplhlokbnaabaa
