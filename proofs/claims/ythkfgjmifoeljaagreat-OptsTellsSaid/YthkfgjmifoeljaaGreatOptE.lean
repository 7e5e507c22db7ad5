/- The walks of opts.GetData, opts.Get. -/
import Derived.Test.YthkfgjmifoeljaaGreatOptD
namespace Go.Proofs.YthkfgjmifoeljaaGreat
open Go.RowKit
set_option maxRecDepth 100000
set_option linter.unusedSimpArgs false
set_option linter.unusedVariables false

def Pk.zero : Pk := ⟨0, 0, [], ⟨#[]⟩⟩
def Pk.ofData (b : ByteArray) : Pk × Int :=
  if b.size < 4 then (.zero, 5) else if num b 2 2 < 4 then (.zero, 4) else if 1492 < num b 2 2 then (.zero, 2) else if (b.size : Int) < num b 2 2 then (.zero, 5)
  else (⟨byte b 0, byte b 1, [], b.extract 4 (num b 2 2).toNat⟩, 0)

set_option maxHeartbeats 2000000 in
theorem getData_any (b : ByteArray) (hb : b.size ≤ maxLen) (w : World) :
    Calls Tryz.prog 15 #[.string b] w fun e w' => e = .returned (.tuple #[(Pk.ofData b).1.val (.slice none 0 0), .int .i64 (Pk.ofData b).2]) ∧ Upd [] w w' := by
  have HB := Lib.hid hb
  simp only [maxLen] at hb
  by_cases t1 : b.size < 4
  · have H1 : Hid (Pk.ofData b = (.zero, 5)) := if_pos t1
    rw [H1.out]
    go_enter Tryz.func15, Tryz.ntmps15
    go_wp2_with fail
    exact bodyPost_ret (v := .tuple #[Pk.zero.val (.slice none 0 0), .int .i64 5]) (by simp [results, Tryz.results15, go_sem, Pk.zero, Pk.val]) rfl ⟨rfl, (Upd.refl _ _).alloc _⟩
  have t1' : ¬ ((b.size : Int) < 4) := by omega
  have hN := num_bd b 2 2
  by_cases t2 : num b 2 2 < 4
  · have H1 : Hid (Pk.ofData b = (.zero, 4)) := by
      show _ = _
      rw [Pk.ofData, if_neg t1, if_pos t2]
    rw [H1.out]
    go_enter Tryz.func15, Tryz.ntmps15
    go_wp2_with fail
    refine (wireGet_ok b 2 2 (by omega) HB.out (by omega) _).mono ?_
    rintro e w' ⟨rfl, rfl⟩
    go_wp2_with fail
    exact bodyPost_ret (v := .tuple #[Pk.zero.val (.slice none 0 0), .int .i64 4]) (by simp [results, Tryz.results15, go_sem, Pk.zero, Pk.val]) rfl ⟨rfl, (Upd.refl _ _).alloc _⟩
  by_cases t3 : 1492 < num b 2 2
  · have H1 : Hid (Pk.ofData b = (.zero, 2)) := by
      show _ = _
      rw [Pk.ofData, if_neg t1, if_neg t2, if_pos t3]
    rw [H1.out]
    go_enter Tryz.func15, Tryz.ntmps15
    go_wp2_with fail
    refine (wireGet_ok b 2 2 (by omega) HB.out (by omega) _).mono ?_
    rintro e w' ⟨rfl, rfl⟩
    go_wp2_with fail
    exact bodyPost_ret (v := .tuple #[Pk.zero.val (.slice none 0 0), .int .i64 2]) (by simp [results, Tryz.results15, go_sem, Pk.zero, Pk.val]) rfl ⟨rfl, (Upd.refl _ _).alloc _⟩
  by_cases t4 : (b.size : Int) < num b 2 2
  · have H1 : Hid (Pk.ofData b = (.zero, 5)) := by
      show _ = _
      rw [Pk.ofData, if_neg t1, if_neg t2, if_neg t3, if_pos t4]
    rw [H1.out]
    go_enter Tryz.func15, Tryz.ntmps15
    go_wp2_with fail
    refine (wireGet_ok b 2 2 (by omega) HB.out (by omega) _).mono ?_
    rintro e w' ⟨rfl, rfl⟩
    go_wp2_with fail
    exact bodyPost_ret (v := .tuple #[Pk.zero.val (.slice none 0 0), .int .i64 5]) (by simp [results, Tryz.results15, go_sem, Pk.zero, Pk.val]) rfl ⟨rfl, (Upd.refl _ _).alloc _⟩
  obtain ⟨j, hj⟩ : ∃ j : Nat, num b 2 2 = j := Int.eq_ofNat_of_zero_le hN.1
  have H1 : Hid (Pk.ofData b = (⟨byte b 0, byte b 1, [], b.extract 4 j⟩, 0)) := by
    show _ = _
    rw [Pk.ofData, if_neg t1, if_neg t2, if_neg t3, if_neg t4, hj, Int.toNat_natCast]
  rw [H1.out]
  have HJ := Lib.hid hj
  rw [hj] at t2 t3 t4
  have hb0 := Lib.hid (byte_get b 0 (by omega))
  have hb1 := Lib.hid (byte_get b 1 (by omega))
  clear hN hj H1
  go_enter Tryz.func15, Tryz.ntmps15
  go_wp2_with fail
  refine (wireGet_ok b 2 2 (by omega) HB.out (by omega) _).mono ?_
  rintro e w' ⟨rfl, rfl⟩
  rw [HJ.out]
  go_wp2_with fail
  have B0 := Blk.new w 24 #[Value.int IntKind.i64 0, Value.int IntKind.i64 0, Value.slice none 0 0, Value.string { data := #[] }]
  have U0 : Upd [] w (w.alloc (Obj.cells #[Value.int IntKind.i64 0, Value.int IntKind.i64 0, Value.slice none 0 0, Value.string { data := #[] }] 24)) := (Upd.refl [] w).alloc _
  generalize w.alloc (Obj.cells #[Value.int IntKind.i64 0, Value.int IntKind.i64 0, Value.slice none 0 0, Value.string { data := #[] }] 24) = w1 at *
  refine wp_region_facts (.one 11 w.heap.size 24 4 #[.int .i64 (byte b 0), .int .i64 (byte b 1), .slice none 0 0, .string (b.extract 4 j)]) (⟨_, B0, rfl⟩) [.is (.string b), .is (.int .u8 (byte b 0)), .is (.int .i64 (byte b 0)), .is (.string b), .is (.int .u8 (byte b 1)), .is (.int .i64 (byte b 1)), .is (.string b), .is (.int .i64 j), .is (.string (b.extract 4 j)), .is (.string (b.extract 4 j)), .is (.agg #[.int .i64 (byte b 0), .int .i64 (byte b 1), .slice none 0 0, .string (b.extract 4 j)]), .any, .is (.int .i64 0)] (by kernel_rfl) (by kernel_rfl) (by kernel_rfl) (by kernel_rfl) ?_ ?_
  · refine Steps.cons ?_ (Steps.cons ?_ (Steps.cons ?_ (Steps.cons ?_ (Steps.cons ?_ (Steps.cons ?_ (Steps.cons ?_ (Steps.cons ?_ (Steps.cons ?_ (Steps.cons ?_ (Steps.cons ?_ (Steps.cons ?_ (Steps.cons ?_ Steps.nil))))))))))))
    · refine step_is _ rfl ⟨_, rfl⟩ rfl (fun _ _ => trivial) ?_
      intro a W hi hF hD
      have hu := hi.upd
      have e0 : a.tmps[0]?.getD undef = _ := (ev a 0).symm.trans (hF 0 (by kernel_rfl))
      clear hF hD
      go_simp
    · refine step_is _ rfl ⟨_, rfl⟩ rfl (fun _ _ => trivial) ?_
      intro a W hi hF hD
      have hu := hi.upd
      have e29 : a.tmps[29]?.getD undef = .string b := (ev a 29).symm.trans (hD _ (Array.mem_of_getElem? (i := 0) rfl) rfl).1
      clear hF hD
      have := hb0.out
      go_simp
      intro h
      subst h
      exact absurd (show (ByteArray.empty).size < 4 by decide) t1
    · refine step_is _ rfl ⟨_, rfl⟩ rfl (fun _ _ => trivial) ?_
      intro a W hi hF hD
      have hu := hi.upd
      have e30 : a.tmps[30]?.getD undef = .int .u8 (byte b 0) := (ev a 30).symm.trans (hD _ (Array.mem_of_getElem? (i := 0) rfl) rfl).1
      clear hF hD
      have := byte_bd b 0
      go_simp
      exact IntWalk.i64_in _ (by omega)
    · refine step_is _ rfl ⟨_, rfl⟩ rfl (fun _ _ => trivial) ?_
      intro a W hi hF hD
      have hu := hi.upd
      have e0 : a.tmps[0]?.getD undef = _ := (ev a 0).symm.trans (hF 0 (by kernel_rfl))
      clear hF hD
      go_simp
    · refine step_is _ rfl ⟨_, rfl⟩ rfl (fun _ _ => trivial) ?_
      intro a W hi hF hD
      have hu := hi.upd
      have e32 : a.tmps[32]?.getD undef = .string b := (ev a 32).symm.trans (hD _ (Array.mem_of_getElem? (i := 0) rfl) rfl).1
      clear hF hD
      have := hb1.out
      go_simp
      intros
      omega
    · refine step_is _ rfl ⟨_, rfl⟩ rfl (fun _ _ => trivial) ?_
      intro a W hi hF hD
      have hu := hi.upd
      have e33 : a.tmps[33]?.getD undef = .int .u8 (byte b 1) := (ev a 33).symm.trans (hD _ (Array.mem_of_getElem? (i := 0) rfl) rfl).1
      clear hF hD
      have := byte_bd b 1
      go_simp
      exact IntWalk.i64_in _ (by omega)
    · refine step_is _ rfl ⟨_, rfl⟩ rfl (fun _ _ => trivial) ?_
      intro a W hi hF hD
      have hu := hi.upd
      have e0 : a.tmps[0]?.getD undef = _ := (ev a 0).symm.trans (hF 0 (by kernel_rfl))
      clear hF hD
      go_simp
    · refine step_is _ rfl ⟨_, rfl⟩ rfl (fun _ _ => trivial) ?_
      intro a W hi hF hD
      have hu := hi.upd
      have e4 : a.tmps[4]?.getD undef = _ := (ev a 4).symm.trans (hF 4 (by kernel_rfl))
      clear hF hD
      go_simp
    · refine step_is _ rfl ⟨_, rfl⟩ rfl (fun _ _ => trivial) ?_
      intro a W hi hF hD
      have hu := hi.upd
      have e35 : a.tmps[35]?.getD undef = .string b := (ev a 35).symm.trans (hD _ (Array.mem_of_getElem? (i := 0) rfl) rfl).1
      have e36 : a.tmps[36]?.getD undef = .int .i64 j := (ev a 36).symm.trans (hD _ (Array.mem_of_getElem? (i := 1) rfl) rfl).1
      clear hF hD
      go_simp
    · refine step_call rfl (fun _ _ => trivial) ?_
      intro a W hi hF hD
      have hu := hi.upd
      have e37 : a.tmps[37]?.getD undef = .string (b.extract 4 j) := (ev a 37).symm.trans (hD _ (Array.mem_of_getElem? (i := 0) rfl) rfl).1
      clear hF hD
      refine ⟨_, _, by (go_simp; first | done | rfl | exact ⟨rfl, rfl⟩), ?_⟩
      refine (clone_any _ _ (by rw [ByteArray.size_extract]; omega)).mono ?_
      rintro e w2 ⟨rfl, hu2⟩
      first | exact ⟨_, rfl, hu2, rfl⟩ | (cases hu2; exact ⟨_, rfl, Upd.refl _ _, rfl⟩)
    · refine step_is _ rfl ⟨_, rfl⟩ rfl (fun _ _ => trivial) ?_
      intro a W hi hF hD
      have hu := hi.upd
      have e31 : a.tmps[31]?.getD undef = .int .i64 (byte b 0) := (ev a 31).symm.trans (hD _ (Array.mem_of_getElem? (i := 0) rfl) rfl).1
      have e34 : a.tmps[34]?.getD undef = .int .i64 (byte b 1) := (ev a 34).symm.trans (hD _ (Array.mem_of_getElem? (i := 1) rfl) rfl).1
      have e38 : a.tmps[38]?.getD undef = .string (b.extract 4 j) := (ev a 38).symm.trans (hD _ (Array.mem_of_getElem? (i := 2) rfl) rfl).1
      clear hF hD
      go_simp
    · refine step_set rfl rfl rfl ?_
      intro a W hi hF hD
      have hu := hi.upd
      have e39 : a.tmps[39]?.getD undef = .agg #[.int .i64 (byte b 0), .int .i64 (byte b 1), .slice none 0 0, .string (b.extract 4 j)] := (ev a 39).symm.trans (hD _ (Array.mem_of_getElem? (i := 0) rfl) rfl).1
      have e2 : a.tmps[2]?.getD undef = _ := (ev a 2).symm.trans (hF 2 (by kernel_rfl))
      clear hF hD
      obtain ⟨c, hB, hc⟩ := hi.hold
      obtain ⟨x, y, z, u, rfl⟩ := arr4 hc
      have s0 := hB.cell 0
      have s1 := hB.cell 1
      have s2 := hB.cell 2
      have s3 := hB.cell 3
      have f0 := hB.frozen 0
      have f1 := hB.frozen 1
      have f2 := hB.frozen 2
      have f3 := hB.frozen 3
      refine ⟨_, by (go_simp; rfl), Env.one_set ?_ ?_ rfl⟩
      · exact ((((Upd.refl _ _).setCell _ (.inl (by simp))).setCell _ (.inl (by simp))).setCell _ (.inl (by simp))).setCell _ (.inl (by simp))
      · exact (((hB.set_ 0 _).set_ 1 _).set_ 2 _).set_ 3 _
    · refine step_is _ rfl ⟨_, rfl⟩ rfl (fun _ _ => trivial) ?_
      intro a W hi hF hD
      have hu := hi.upd
      have k11 := (hD _ (Array.mem_of_getElem? (i := 0) rfl) rfl).2
      clear hF hD
      go_simp
  intro vals W hu hv
  have v0 : vals 0 = .string b := (hv 0 (by decide)).1
  have v1 : vals 1 = .int .u8 (byte b 0) := (hv 1 (by decide)).1
  have v2 : vals 2 = .int .i64 (byte b 0) := (hv 2 (by decide)).1
  have v3 : vals 3 = .string b := (hv 3 (by decide)).1
  have v4 : vals 4 = .int .u8 (byte b 1) := (hv 4 (by decide)).1
  have v5 : vals 5 = .int .i64 (byte b 1) := (hv 5 (by decide)).1
  have v6 : vals 6 = .string b := (hv 6 (by decide)).1
  have v7 : vals 7 = .int .i64 j := (hv 7 (by decide)).1
  have v8 : vals 8 = .string (b.extract 4 j) := (hv 8 (by decide)).1
  have v9 : vals 9 = .string (b.extract 4 j) := (hv 9 (by decide)).1
  have v10 : vals 10 = .agg #[.int .i64 (byte b 0), .int .i64 (byte b 1), .slice none 0 0, .string (b.extract 4 j)] := (hv 10 (by decide)).1
  have v11 := (hv 11 (by decide)).2
  have v12 : vals 12 = .int .i64 0 := (hv 12 (by decide)).1
  clear hv
  simp only [putAll, Act.put, Nat.zero_add, Nat.reduceAdd, v0, v1, v2, v3, v4, v5, v6, v7, v8, v9, v10, v12, List.setIfInBounds_toArray, List.set_cons_zero, List.set_cons_succ]
  clear v0 v1 v2 v3 v4 v5 v6 v7 v8 v9 v10 v12
  have r0 := Blk.cell (show Blk W w.heap.size _ _ from v11) 0
  have r1 := Blk.cell (show Blk W w.heap.size _ _ from v11) 1
  have r2 := Blk.cell (show Blk W w.heap.size _ _ from v11) 2
  have r3 := Blk.cell (show Blk W w.heap.size _ _ from v11) 3
  simp at r0 r1 r2 r3
  have U1 : Upd [] w W := U0.trans' (show Upd [w.heap.size] w1 W from hu) (fun x hx => .inr (by simp at hx; omega))
  clear v11 hu
  go_wp2
  exact bodyPost_ret (v := .tuple #[Pk.val ⟨byte b 0, byte b 1, [], b.extract 4 j⟩ (.slice none 0 0), .int .i64 0]) (by simp [results, Tryz.results15, go_sem, Pk.val, r0, r1, r2, r3]) rfl ⟨rfl, U1⟩

def Pk.get (b : ByteArray) : Pk × Int :=
  if (Pk.ofData b).2 ≠ 0 ∨ hasOpts (Pk.ofData b).1.code = false then Pk.ofData b
  else if (getOpts (Pk.ofData b).1.data).2 ≠ 0 then (.zero, (getOpts (Pk.ofData b).1.data).2) else (⟨(Pk.ofData b).1.code, (Pk.ofData b).1.id, (getOpts (Pk.ofData b).1.data).1, ⟨#[]⟩⟩, 0)
/-- The call gives a packet and an error. -/
def GivesPk (r : Pk × Int) (w : World) (e : Ending) (w' : World) : Prop := ∃ v own, e = .returned (.tuple #[r.1.val v, .int .i64 r.2]) ∧ Own w' 67 2 v r.1.opts.length (tgCells r.1.opts) own ∧ (∀ k, k ∈ own → w.heap.size ≤ k) ∧ Upd [] w w'
theorem ofData_opts (b : ByteArray) : (Pk.ofData b).1.opts = [] := by
  unfold Pk.ofData
  split
  · rfl
  · split
    · rfl
    · split
      · rfl
      · split <;> rfl
theorem ofData_size (b : ByteArray) : (Pk.ofData b).1.data.size ≤ b.size := by
  unfold Pk.ofData
  split
  · exact Nat.zero_le _
  · split
    · exact Nat.zero_le _
    · split
      · exact Nat.zero_le _
      · split
        · exact Nat.zero_le _
        · simp only [ByteArray.size_extract]; omega
set_option maxHeartbeats 2000000 in
theorem optsGet_any (b : ByteArray) (hb : b.size ≤ 140737488355328) (w : World) :
    Calls Tryz.prog 11 #[.string b] w (GivesPk (Pk.get b) w) := by
  have HO := ofData_opts b
  have HSZ := ofData_size b
  have HB : Hid (b.size ≤ maxLen) := by show _ ≤ _; simp only [maxLen]; omega
  obtain ⟨⟨c, i, l, d⟩, e0, hG⟩ : ∃ r e, Pk.ofData b = (r, e) := ⟨_, _, rfl⟩
  have HQ : Hid (Pk.get b = if e0 ≠ 0 ∨ hasOpts c = false then (⟨c, i, l, d⟩, e0) else if (getOpts d).2 ≠ 0 then (.zero, (getOpts d).2) else (⟨c, i, (getOpts d).1, ⟨#[]⟩⟩, 0)) := by
    show _ = _
    rw [Pk.get, hG]
  rw [HQ.out]
  rw [hG] at HO HSZ
  simp only at HO HSZ
  subst HO
  have HG := Lib.hid hG
  clear hG HQ
  by_cases t1 : e0 = 0
  · subst t1
    by_cases t2 : hasOpts c = true
    · rw [if_neg (by simp [t2])]
      have T2 := Lib.hid t2
      obtain ⟨l2, e2, hO⟩ : ∃ r e, getOpts d = (r, e) := ⟨_, _, rfl⟩
      rw [hO]
      have HGO := Lib.hid hO
      clear t2 hO
      by_cases t3 : e2 = 0
      · subst t3
        rw [if_neg (by simp)]
        go_enter Tryz.func11, Tryz.ntmps11
        go_wp2_with fail
        refine (getData_any b HB.out _).mono ?_
        rintro e w1 ⟨rfl, hu⟩
        rw [HG.out]
        simp only [Pk.val]
        have B0 := (Blk.new w 24 #[Value.int IntKind.i64 0, Value.int IntKind.i64 0, Value.slice none 0 0, Value.string { data := #[] }]).upd hu (by simp)
        have HU1 := Lib.hid (((Upd.refl [] w).alloc _).trans hu)
        have hsz := hu.size
        simp at hsz
        clear hu
        go_wp2_with (go_at_call 31; refine (hasOptions_any _ _).mono ?_; rintro e w' ⟨rfl, rfl⟩; rw [T2.out])
        have BB1 := B0.alloc (Obj.cells #[Value.int IntKind.i64 c, Value.int IntKind.i64 i, Value.slice none 0 0, Value.string d] 24)
        have CC := Blk.new w1 24 #[Value.int IntKind.i64 c, Value.int IntKind.i64 i, Value.slice none 0 0, Value.string d]
        have HU2 := Lib.hid (HU1.out.alloc (Obj.cells #[Value.int IntKind.i64 c, Value.int IntKind.i64 i, Value.slice none 0 0, Value.string d] 24))
        refine (getOptions_any d (by omega) _).mono ?_
        rintro e w3 ⟨v3, own3, rfl, ht3, hin3, hu3⟩
        rw [HGO.out] at ht3
        rw [HGO.out]
        obtain ⟨ao3, cap3, rfl, -, -⟩ := ht3.shape
        have HV := Lib.hid ht3
        have HIN3 := Lib.hid hin3
        clear hin3
        have HU3 := Lib.hid (HU2.out.trans hu3)
        have BB := BB1.upd hu3 (by simp)
        have DD := CC.upd hu3 (by simp)
        have d0 := DD.cell 0
        have d1 := DD.cell 1
        simp at d0 d1
        have HBB := Lib.hid BB
        have s0 := BB.cell 0
        have s1 := BB.cell 1
        have s2 := BB.cell 2
        have s3 := BB.cell 3
        have f0 := BB.frozen 0
        have f1 := BB.frozen 1
        have f2 := BB.frozen 2
        have f3 := BB.frozen 3
        simp at s0 s1 s2 s3
        clear ht3 hu3 B0 BB1 CC DD BB HU1 HU2
        go_wp2_with fail
        have hno : w.heap.size ∉ own3 := fun hk => by have := HIN3.out _ hk; simp at this; omega
        have RR := (((HBB.out.set_ 0 (.int .i64 c)).set_ 1 (.int .i64 i)).set_ 2 (.slice ao3 l2.length cap3)).set_ 3 (.string ⟨#[]⟩)
        have r0 := RR.cell 0
        have r1 := RR.cell 1
        have r2 := RR.cell 2
        have r3 := RR.cell 3
        simp at r0 r1 r2 r3
        exact bodyPost_ret (v := .tuple #[.agg #[.int .i64 c, .int .i64 i, .slice ao3 l2.length cap3, .string ⟨#[]⟩], .int .i64 0]) (by simp [results, Tryz.results11, go_sem, r0, r1, r2, r3]) rfl ⟨_, own3, rfl, ((((HV.out.setCell _ hno).setCell _ hno).setCell _ hno).setCell _ hno), fun k hk => by have := HIN3.out k hk; simp at this; omega, ((((HU3.out).setCell _ (.inr (Nat.le_refl _))).setCell _ (.inr (Nat.le_refl _))).setCell _ (.inr (Nat.le_refl _))).setCell _ (.inr (Nat.le_refl _))⟩
      · rw [if_pos t3]
        have q3 : (e2 != 0) = true := by simpa using t3
        clear t3
        go_enter Tryz.func11, Tryz.ntmps11
        go_wp2_with fail
        refine (getData_any b HB.out _).mono ?_
        rintro e w1 ⟨rfl, hu⟩
        rw [HG.out]
        simp only [Pk.val]
        have B0 := (Blk.new w 24 #[Value.int IntKind.i64 0, Value.int IntKind.i64 0, Value.slice none 0 0, Value.string { data := #[] }]).upd hu (by simp)
        have HU1 := Lib.hid (((Upd.refl [] w).alloc _).trans hu)
        have hsz := hu.size
        simp at hsz
        clear hu
        go_wp2_with (go_at_call 31; refine (hasOptions_any _ _).mono ?_; rintro e w' ⟨rfl, rfl⟩; rw [T2.out])
        have BB1 := B0.alloc (Obj.cells #[Value.int IntKind.i64 c, Value.int IntKind.i64 i, Value.slice none 0 0, Value.string d] 24)
        have HU2 := Lib.hid (HU1.out.alloc (Obj.cells #[Value.int IntKind.i64 c, Value.int IntKind.i64 i, Value.slice none 0 0, Value.string d] 24))
        refine (getOptions_any d (by omega) _).mono ?_
        rintro e w3 ⟨v3, own3, rfl, ht3, hin3, hu3⟩
        rw [HGO.out]
        have HU3 := Lib.hid (HU2.out.trans hu3)
        have BB := BB1.upd hu3 (by simp)
        have HBB := Lib.hid BB
        have s0 := BB.cell 0
        have s1 := BB.cell 1
        have s2 := BB.cell 2
        have s3 := BB.cell 3
        have f0 := BB.frozen 0
        have f1 := BB.frozen 1
        have f2 := BB.frozen 2
        have f3 := BB.frozen 3
        simp at s0 s1 s2 s3
        clear ht3 hin3 hu3 B0 BB1 BB HU1 HU2
        go_wp2_with fail
        have RR := (((HBB.out.set_ 0 (.int .i64 0)).set_ 1 (.int .i64 0)).set_ 2 (.slice none 0 0)).set_ 3 (.string ⟨#[]⟩)
        have r0 := RR.cell 0
        have r1 := RR.cell 1
        have r2 := RR.cell 2
        have r3 := RR.cell 3
        simp at r0 r1 r2 r3
        exact bodyPost_ret (v := .tuple #[.agg #[.int .i64 0, .int .i64 0, .slice none 0 0, .string ⟨#[]⟩], .int .i64 e2]) (by simp [results, Tryz.results11, go_sem, r0, r1, r2, r3]) rfl ⟨_, [], rfl, Own.nil _ _ _, by simp, ((((HU3.out).setCell _ (.inr (Nat.le_refl _))).setCell _ (.inr (Nat.le_refl _))).setCell _ (.inr (Nat.le_refl _))).setCell _ (.inr (Nat.le_refl _))⟩
    · have t2 : hasOpts c = false := by simpa using t2
      rw [if_pos (.inr t2)]
      have T2 := Lib.hid t2
      clear t2
      go_enter Tryz.func11, Tryz.ntmps11
      go_wp2_with fail
      refine (getData_any b HB.out _).mono ?_
      rintro e w1 ⟨rfl, hu⟩
      rw [HG.out]
      simp only [Pk.val]
      have B0 := (Blk.new w 24 #[Value.int IntKind.i64 0, Value.int IntKind.i64 0, Value.slice none 0 0, Value.string { data := #[] }]).upd hu (by simp)
      have HU1 := Lib.hid (((Upd.refl [] w).alloc _).trans hu)
      have hsz := hu.size
      simp at hsz
      clear hu
      have BB := B0.alloc (Obj.cells #[Value.int IntKind.i64 c, Value.int IntKind.i64 i, Value.slice none 0 0, Value.string d] 24)
      have HBB := Lib.hid BB
      have s0 := BB.cell 0
      have s1 := BB.cell 1
      have s2 := BB.cell 2
      have s3 := BB.cell 3
      have f0 := BB.frozen 0
      have f1 := BB.frozen 1
      have f2 := BB.frozen 2
      have f3 := BB.frozen 3
      simp at s0 s1 s2 s3
      clear B0 BB
      go_wp2_with (go_at_call 31; refine (hasOptions_any _ _).mono ?_; rintro e w' ⟨rfl, rfl⟩; rw [T2.out])
      have RR := (((HBB.out.set_ 0 (.int .i64 c)).set_ 1 (.int .i64 i)).set_ 2 (.slice none 0 0)).set_ 3 (.string d)
      have r0 := RR.cell 0
      have r1 := RR.cell 1
      have r2 := RR.cell 2
      have r3 := RR.cell 3
      simp at r0 r1 r2 r3
      exact bodyPost_ret (v := .tuple #[.agg #[.int .i64 c, .int .i64 i, .slice none 0 0, .string d], .int .i64 0]) (by simp [results, Tryz.results11, go_sem, r0, r1, r2, r3]) rfl ⟨_, [], rfl, Own.nil _ _ _, by simp, ((((HU1.out.alloc _).setCell _ (.inr (Nat.le_refl _))).setCell _ (.inr (Nat.le_refl _))).setCell _ (.inr (Nat.le_refl _))).setCell _ (.inr (Nat.le_refl _))⟩
  · rw [if_pos (.inl t1)]
    have q1 : (e0 != 0) = true := by simpa using t1
    clear t1
    go_enter Tryz.func11, Tryz.ntmps11
    go_wp2_with fail
    refine (getData_any b HB.out _).mono ?_
    rintro e w1 ⟨rfl, hu⟩
    rw [HG.out]
    simp only [Pk.val]
    have B0 := (Blk.new w 24 #[Value.int IntKind.i64 0, Value.int IntKind.i64 0, Value.slice none 0 0, Value.string { data := #[] }]).upd hu (by simp)
    have HU1 := Lib.hid (((Upd.refl [] w).alloc _).trans hu)
    have hsz := hu.size
    simp at hsz
    clear hu
    have BB := B0.alloc (Obj.cells #[Value.int IntKind.i64 c, Value.int IntKind.i64 i, Value.slice none 0 0, Value.string d] 24)
    have HBB := Lib.hid BB
    have s0 := BB.cell 0
    have s1 := BB.cell 1
    have s2 := BB.cell 2
    have s3 := BB.cell 3
    have f0 := BB.frozen 0
    have f1 := BB.frozen 1
    have f2 := BB.frozen 2
    have f3 := BB.frozen 3
    simp at s0 s1 s2 s3
    clear B0 BB
    go_wp2_with fail
    have RR := (((HBB.out.set_ 0 (.int .i64 c)).set_ 1 (.int .i64 i)).set_ 2 (.slice none 0 0)).set_ 3 (.string d)
    have r0 := RR.cell 0
    have r1 := RR.cell 1
    have r2 := RR.cell 2
    have r3 := RR.cell 3
    simp at r0 r1 r2 r3
    exact bodyPost_ret (v := .tuple #[.agg #[.int .i64 c, .int .i64 i, .slice none 0 0, .string d], .int .i64 e0]) (by simp [results, Tryz.results11, go_sem, r0, r1, r2, r3]) rfl ⟨_, [], rfl, Own.nil _ _ _, by simp, ((((HU1.out.alloc _).setCell _ (.inr (Nat.le_refl _))).setCell _ (.inr (Nat.le_refl _))).setCell _ (.inr (Nat.le_refl _))).setCell _ (.inr (Nat.le_refl _))⟩
end Go.Proofs.YthkfgjmifoeljaaGreat
