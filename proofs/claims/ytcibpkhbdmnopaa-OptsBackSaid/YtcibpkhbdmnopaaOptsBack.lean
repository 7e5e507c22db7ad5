/- The walk of the statement OptsBack. -/
import Derived.Test.YtcibpkhbdmnopaaOptsLists
namespace Go.Proofs.Ytcibpkhbdmnopaa
open Go.RowKit
set_option linter.unusedSimpArgs false
set_option linter.unusedVariables false

set_option maxHeartbeats 8000000 in
set_option maxRecDepth 100000 in
theorem optsBack_any (p : Pk) (v : Value) (more : ByteArray) (cut : Int) (w : World) (hl : TgsAt w v p.opts) (hls : ∀ t ∈ p.opts, t.s.size ≤ 140737488355328) (hd : p.data.size ≤ 140737488355328) (hmo : more.size ≤ 140737488355328) (hcut : (Lit.int .i64 cut).wf = true) :
    Calls Try.prog 5 #[p.val v, .string more, .int .i64 cut] w fun e w' => e = .returned (.bool true) ∧ Upd [] w w' := by
  obtain ⟨ao, cap, rfl, -, -, -⟩ := id hl
  obtain ⟨n, hn⟩ : ∃ n, n = p.opts.length := ⟨_, rfl⟩
  rw [← hn] at hl ⊢
  clear hn
  have HL := Lib.hid hl
  have HLS := Lib.hid hls
  clear hl hls
  have U0 : Upd [] w (w.alloc (Obj.cells #[Value.int IntKind.i64 p.code, Value.int IntKind.i64 p.id, .slice ao n cap, .string p.data] 36)) := (Upd.refl [] w).alloc _
  have A0 := Blk.new w 36 #[Value.int IntKind.i64 p.code, Value.int IntKind.i64 p.id, .slice ao n cap, .string p.data]
  obtain ⟨A, hA⟩ : ∃ A, A = Obj.cells #[Value.int IntKind.i64 p.code, Value.int IntKind.i64 p.id, .slice ao n cap, .string p.data] 36 := ⟨_, rfl⟩
  rw [← hA] at A0 U0
  have HA := Lib.hid hA
  clear hA
  have HC : Hid (∀ W, Upd [] (w.alloc A) W → W.cell? ⟨w.heap.size, 0, none⟩ = some (.int .i64 p.code) ∧ W.cell? ⟨w.heap.size, 1, none⟩ = some (.int .i64 p.id) ∧ W.cell? ⟨w.heap.size, 2, none⟩ = some (.slice ao n cap) ∧ W.cell? ⟨w.heap.size, 3, none⟩ = some (.string p.data)) := fun W hu =>
    ⟨(A0.upd hu (by simp)).cell 0, (A0.upd hu (by simp)).cell 1, (A0.upd hu (by simp)).cell 2, (A0.upd hu (by simp)).cell 3⟩
  have HU0 := Lib.hid U0
  have hc0 := HC.out _ (Upd.refl [] (w.alloc A))
  clear A0 U0
  by_cases t1 : LightO p.opts = true
  rotate_left
  · have T1 : Hid (LightO p.opts = false) := by show _ = _; simpa using t1
    clear t1
    go_enter Try.func5, Try.ntmps5
    simp only [Pk.val]
    go_wp2_with fail
    rw [← HA.out]
    refine (lightO_any p.opts _ _ (HL.out.upd HU0.out) HLS.out).mono ?_
    rintro e w1 ⟨rfl, hu1⟩
    rw [T1.out]
    go_wp2_with fail
    refine (alive_any _).mono ?_
    rintro e w2 ⟨rfl, hu2⟩
    go_wp2_with fail
    go_ret
    exact ⟨rfl, (HU0.out.trans hu1).trans hu2⟩
  have T1 := Lib.hid t1
  clear t1
  by_cases t2 : 3000 < p.data.size + more.size
  · have t2' : (3000 : Int) < p.data.size + more.size := by omega
    go_enter Try.func5, Try.ntmps5
    simp only [Pk.val]
    go_wp2_with fail
    rw [← HA.out]
    refine (lightO_any p.opts _ _ (HL.out.upd HU0.out) HLS.out).mono ?_
    rintro e w1 ⟨rfl, hu1⟩
    rw [T1.out]
    have hc := HC.out w1 hu1
    go_wp2_with fail
    refine (alive_any _).mono ?_
    rintro e w2 ⟨rfl, hu2⟩
    go_wp2_with fail
    go_ret
    exact ⟨rfl, (HU0.out.trans hu1).trans hu2⟩
  have t2' : ¬ (3000 : Int) < p.data.size + more.size := by omega
  obtain ⟨s1, e1, hp1⟩ : ∃ b e, p.putData = (b, e) := ⟨_, _, rfl⟩
  obtain ⟨s, e0, hp⟩ : ∃ b e, p.put = (b, e) := ⟨_, _, rfl⟩
  have HP1 := Lib.hid hp1
  have HP := Lib.hid hp
  clear hp
  go_enter Try.func5, Try.ntmps5
  simp only [Pk.val]
  go_wp2_with fail
  rw [← HA.out]
  refine (lightO_any p.opts _ _ (HL.out.upd HU0.out) HLS.out).mono ?_
  rintro e w1 ⟨rfl, hu1⟩
  rw [T1.out]
  have HU1 := Lib.hid hu1
  have hc := HC.out w1 hu1
  clear hu1
  go_wp2_with fail
  refine (putData_any p _ _ (HL.out.upd (HU0.out.trans HU1.out)) (by simp only [maxLen]; omega)).mono ?_
  rintro e w2 ⟨rfl, hu2⟩
  rw [HP1.out]
  have HU2 := Lib.hid (HU1.out.trans hu2)
  clear hu2 HU1 hc hc0 T1
  by_cases he : e1 = 0
  focus
    subst he
    obtain ⟨hb, hsz⟩ := putData_back hp1
    obtain ⟨S, hS⟩ : ∃ S, S = s1 ++ more := ⟨_, rfl⟩
    have HG := Lib.hid (hb more)
    have hadd := run_string_add_sum (P := Try.prog) w2 s1 more (by omega)
    have HSZ : Hid (S.size ≤ maxLen) := by show _ ≤ _; rw [hS, ByteArray.size_append]; simp only [maxLen]; omega
    rw [← hS] at hadd HG
    clear hp1 hb hsz hS
    go_wp2_with fail
    refine (getData_any S HSZ.out _).mono ?_
    rintro e w4 ⟨rfl, hu4⟩
    rw [HG.out]
    simp only [Pk.val]
    have HU5 := Lib.hid ((HU2.out.trans hu4).alloc (Obj.cells #[Value.int IntKind.i64 p.code, Value.int IntKind.i64 p.id, Value.slice none 0 0, Value.string p.data] 36))
    have hc5 := HC.out _ HU5.out
    clear hu4 HU2 hadd
    go_wp2_with fail
    clear hc5 HG HSZ HP1
  rotate_left
  focus
    have he' : (e1 == 0) = false := by simpa using he
    have HU5 := Lib.hid HU2.out
    have hc5 := HC.out _ HU5.out
    clear he hp1
    go_wp2_with fail
    clear hc5 he' HP1 HU2
  all_goals
    refine (optsPut_any p _ _ (HL.out.upd (HU0.out.trans HU5.out)) HLS.out hd).mono ?_
    rintro e w6 ⟨rfl, hu6⟩
    rw [HP.out]
    have HU6 := Lib.hid (HU5.out.trans hu6)
    clear hu6 HU5
    by_cases hg : e0 = 0
    · subst hg
      obtain ⟨hb, h4, h5, hk⟩ := put_back HP.out
      obtain ⟨S2, hS2⟩ : ∃ S, S = s ++ more := ⟨_, rfl⟩
      have HG2 := Lib.hid (hb more)
      have hadd := run_string_add_sum (P := Try.prog) w6 s more (by omega)
      have HSZ2 : Hid (S2.size ≤ 140737488355328) := by show _ ≤ _; rw [hS2, ByteArray.size_append]; omega
      rw [← hS2] at hadd HG2
      have HK := Lib.hid hk
      clear hb hk hS2
      have h4' : ¬ (s.size : Int) < 4 := by omega
      have hr2 : cut.tmod (s.size : Int) < s.size := Int.tmod_lt_of_pos _ (by omega)
      have hr1 : -(s.size : Int) < cut.tmod (s.size : Int) := by
        have h := Int.tmod_lt_of_pos (-cut) (show (0 : Int) < s.size by omega)
        rw [Int.neg_tmod] at h
        omega
      have HR := Lib.hid (And.intro hr1 hr2)
      clear hr1 hr2
      go_wp2_with fail
      refine (optsGet_any S2 HSZ2.out _).mono ?_
      rintro e w7 ⟨v7, own7, rfl, ho7, hin7, hu7⟩
      rw [HG2.out] at ho7
      rw [HG2.out]
      simp only at ho7
      obtain ⟨ao7, cap7, rfl, -, -⟩ := ho7.shape
      simp only [Pk.val]
      have HV7 := Lib.hid (TgsAt.of_own ho7)
      have HU7 := Lib.hid ((HU6.out.trans hu7).alloc (Obj.cells #[Value.int IntKind.i64 p.code, Value.int IntKind.i64 p.id, Value.slice ao7 p.opts.length cap7, Value.string p.data] 36))
      have hc7 := HC.out _ HU7.out
      have hsz7 : w.heap.size < w7.heap.size := by
        have h1 := (HU6.out.trans hu7).size
        have h2 : (w.alloc A).heap.size = w.heap.size + 1 := by simp
        omega
      clear ho7 hin7 hu7 hadd HU6
      go_wp2_with fail
      refine (optsSelf p.opts _ _ _ (HV7.out.upd ((Upd.refl [] w7).alloc _)) (HL.out.upd (HU0.out.trans HU7.out))).mono ?_
      rintro e w8 ⟨rfl, hu8⟩
      have HU8 := Lib.hid (HU7.out.trans hu8)
      clear hu8 hc7 HU7 HV7
      by_cases hneg : cut.tmod (s.size : Int) < 0
      · obtain ⟨j, hj⟩ : ∃ j : Nat, cut.tmod (s.size : Int) = (j : Int) - s.size := by
          have := HR.out
          exact ⟨(cut.tmod (s.size : Int) + s.size).toNat, by omega⟩
        have hjs : j < s.size := by omega
        rw [hj] at hneg
        have HKJ := Lib.hid (HK.out j hjs)
        have HS3 : Hid ((s.extract 0 j).size ≤ 140737488355328) := by show _ ≤ _; rw [ByteArray.size_extract]; omega
        clear HR
        go_wp2_with fail
        generalize s.extract 0 j = S3 at *
        obtain ⟨⟨c3, i3, l3, d3⟩, e3, hG3⟩ : ∃ r e, Pk.get S3 = (r, e) := ⟨_, _, rfl⟩
        have he3 : e3 = 5 := by
          have := HKJ.out
          rw [hG3] at this
          exact this
        subst he3
        have HG3 := Lib.hid hG3
        clear hG3
        refine (optsGet_any S3 HS3.out _).mono ?_
        rintro e w9 ⟨v9, own9, rfl, ho9, hin9, hu9⟩
        rw [HG3.out] at ho9
        rw [HG3.out]
        simp only at ho9
        obtain ⟨ao9, cap9, rfl, -, -⟩ := ho9.shape
        simp only [Pk.val]
        have HU9 := Lib.hid ((HU8.out.trans hu9).alloc (Obj.cells #[Value.int IntKind.i64 c3, Value.int IntKind.i64 i3, Value.slice ao9 l3.length cap9, Value.string d3] 36))
        clear ho9 hin9 hu9 HU8
        go_wp2_with fail
        refine (alive_any _).mono ?_
        rintro e w10 ⟨rfl, hu10⟩
        go_wp2_with fail
        go_ret
        exact ⟨rfl, HU0.out.trans (HU9.out.trans hu10)⟩
      · obtain ⟨j, hj⟩ : ∃ j : Nat, cut.tmod (s.size : Int) = (j : Int) := ⟨(cut.tmod (s.size : Int)).toNat, by omega⟩
        have hjs : j < s.size := by have := HR.out; omega
        rw [hj] at hneg
        have HKJ := Lib.hid (HK.out j hjs)
        have HS3 : Hid ((s.extract 0 j).size ≤ 140737488355328) := by show _ ≤ _; rw [ByteArray.size_extract]; omega
        clear HR
        go_wp2_with fail
        generalize s.extract 0 j = S3 at *
        obtain ⟨⟨c3, i3, l3, d3⟩, e3, hG3⟩ : ∃ r e, Pk.get S3 = (r, e) := ⟨_, _, rfl⟩
        have he3 : e3 = 5 := by
          have := HKJ.out
          rw [hG3] at this
          exact this
        subst he3
        have HG3 := Lib.hid hG3
        clear hG3
        refine (optsGet_any S3 HS3.out _).mono ?_
        rintro e w9 ⟨v9, own9, rfl, ho9, hin9, hu9⟩
        rw [HG3.out] at ho9
        rw [HG3.out]
        simp only at ho9
        obtain ⟨ao9, cap9, rfl, -, -⟩ := ho9.shape
        simp only [Pk.val]
        have HU9 := Lib.hid ((HU8.out.trans hu9).alloc (Obj.cells #[Value.int IntKind.i64 c3, Value.int IntKind.i64 i3, Value.slice ao9 l3.length cap9, Value.string d3] 36))
        clear ho9 hin9 hu9 HU8
        go_wp2_with fail
        refine (alive_any _).mono ?_
        rintro e w10 ⟨rfl, hu10⟩
        go_wp2_with fail
        go_ret
        exact ⟨rfl, HU0.out.trans (HU9.out.trans hu10)⟩
    · obtain rfl := put_bad HP.out hg
      have hg' : (e0 != 0) = true := by simpa using hg
      clear hg
      go_wp2_with fail
      refine (alive_any _).mono ?_
      rintro e w7 ⟨rfl, hu7⟩
      go_wp2_with fail
      go_ret
      exact ⟨rfl, HU0.out.trans (HU6.out.trans hu7)⟩
end Go.Proofs.Ytcibpkhbdmnopaa
