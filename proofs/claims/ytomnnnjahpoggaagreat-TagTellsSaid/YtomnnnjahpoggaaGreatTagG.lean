/- The walk of tag.Get. -/
import Derived.Test.YtomnnnjahpoggaaGreatTagB
namespace Go.Proofs.YtomnnnjahpoggaaGreat
open Go.RowKit
set_option maxRecDepth 100000

def Dc.zero : Dc := ⟨0, 0, ⟨#[]⟩⟩
/-- What a packet's bytes tell. -/
def Dc.get (b : ByteArray) : Dc × Int :=
  if b.size < 6 then (.zero, 5) else if byte b 0 ≠ 17 then (.zero, 4) else if 1494 < num b 4 2 then (.zero, 2) else if (b.size : Int) - 6 < num b 4 2 then (.zero, 5)
  else (⟨byte b 1, num b 2 2, b.extract 6 (6 + (num b 4 2).toNat)⟩, 0)

set_option maxHeartbeats 1000000 in
theorem get_any (b : ByteArray) (hb : b.size ≤ maxLen) (w : World) :
    Calls Tryz.prog 8 #[.string b] w fun e w' => e = .returned (.tuple #[(Dc.get b).1.val, .int .i64 (Dc.get b).2]) ∧ Upd [] w w' := by
  have HB := Lib.hid hb
  simp only [maxLen] at hb
  by_cases t1 : b.size < 6
  · have H1 : Hid (Dc.get b = (.zero, 5)) := if_pos t1
    rw [H1.out]
    go_enter Tryz.func8, Tryz.ntmps8
    go_wp2
    exact bodyPost_ret (v := .tuple #[Dc.zero.val, .int .i64 5]) (by simp [results, Tryz.results8, go_sem, Dc.zero, Dc.val]) rfl ⟨rfl, (Upd.refl _ _).alloc _⟩
  have hbyte : ∀ i (h : i < b.size), ((b[i].toNat : Int)) = byte b i := byte_get b
  have t1' : ¬ ((b.size : Int) < 6) := by omega
  have hN := num_bd b 4 2
  by_cases t2 : byte b 0 = 17
  · have q1 := hbyte 0 (by omega)
    have q2 : ((b[0].toNat : Int) != 17) = false := by rw [q1]; simpa using t2
    have q3 := Lib.hid (hbyte 1 (by omega))
    clear q1 hbyte
    by_cases t3 : 1494 < num b 4 2
    · have H1 : Hid (Dc.get b = (.zero, 2)) := by
        show _ = _
        rw [Dc.get, if_neg t1, if_neg (by simpa using t2), if_pos t3]
      rw [H1.out]
      clear t2
      go_enter Tryz.func8, Tryz.ntmps8
      go_wp2_with (go_at_call 27; refine (tagNum_ok b 4 HB.out (by omega) _).mono ?_; rintro e w' ⟨rfl, rfl⟩)
      exact bodyPost_ret (v := .tuple #[Dc.zero.val, .int .i64 2]) (by simp [results, Tryz.results8, go_sem, Dc.zero, Dc.val]) rfl ⟨rfl, (Upd.refl _ _).alloc _⟩
    · by_cases t4 : (b.size : Int) - 6 < num b 4 2
      · have H1 : Hid (Dc.get b = (.zero, 5)) := by
          show _ = _
          rw [Dc.get, if_neg t1, if_neg (by simpa using t2), if_neg t3, if_pos t4]
        rw [H1.out]
        clear t2
        go_enter Tryz.func8, Tryz.ntmps8
        go_wp2_with (go_at_call 27; refine (tagNum_ok b 4 HB.out (by omega) _).mono ?_; rintro e w' ⟨rfl, rfl⟩)
        exact bodyPost_ret (v := .tuple #[Dc.zero.val, .int .i64 5]) (by simp [results, Tryz.results8, go_sem, Dc.zero, Dc.val]) rfl ⟨rfl, (Upd.refl _ _).alloc _⟩
      · have H1 : Hid (Dc.get b = (⟨byte b 1, num b 2 2, b.extract 6 (6 + (num b 4 2).toNat)⟩, 0)) := by
          show _ = _
          rw [Dc.get, if_neg t1, if_neg (by simpa using t2), if_neg t3, if_neg t4]
        rw [H1.out]
        clear t2
        obtain ⟨n, hn⟩ : ∃ n : Nat, num b 4 2 = n := Int.eq_ofNat_of_zero_le hN.1
        have HN := Lib.hid hn
        have t5 : ¬ ((1494 : Int) < n) := by omega
        have t6 : ¬ ((b.size : Int) - 6 < n) := by omega
        have H2 : Hid ((num b 4 2).toNat = n) := by show _ = _; omega
        rw [H2.out]
        clear hN hn t3 t4 H1 H2
        go_enter Tryz.func8, Tryz.ntmps8
        go_wp2_with (go_at_call 27; refine (tagNum_ok b 4 HB.out (by omega) _).mono ?_; rintro e w' ⟨rfl, rfl⟩; rw [HN.out])
        have B0 := Blk.new w 23 #[Value.int IntKind.i64 0, Value.int IntKind.i64 0, Value.string { data := #[] }]
        have U0 : Upd [] w (w.alloc (Obj.cells #[Value.int IntKind.i64 0, Value.int IntKind.i64 0, Value.string { data := #[] }] 23)) := (Upd.refl [] w).alloc _
        generalize w.alloc (Obj.cells #[Value.int IntKind.i64 0, Value.int IntKind.i64 0, Value.string { data := #[] }] 23) = w1 at *
        refine wp_region_facts (.one 12 w.heap.size 23 3 #[.int .i64 (byte b 1), .int .i64 (num b 2 2), .string (b.extract 6 (6 + n))]) (⟨_, B0, rfl⟩) [.is (.string b), .is (.int .u8 (byte b 1)), .is (.int .i64 (byte b 1)), .is (.string b), .is (.int .i64 (num b 2 2)), .is (.string b), .is (.string b), .is (.int .i64 (num b 4 2)), .is (.int .i64 (6 + n)), .is (.string (b.extract 6 (6 + n))), .is (.string (b.extract 6 (6 + n))), .is (.agg #[.int .i64 (byte b 1), .int .i64 (num b 2 2), .string (b.extract 6 (6 + n))]), .any, .is (.int .i64 0)] (by kernel_rfl) (by kernel_rfl) (by kernel_rfl) (by kernel_rfl) ?_ ?_
        · refine Steps.cons ?_ (Steps.cons ?_ (Steps.cons ?_ (Steps.cons ?_ (Steps.cons ?_ (Steps.cons ?_ (Steps.cons ?_ (Steps.cons ?_ (Steps.cons ?_ (Steps.cons ?_ (Steps.cons ?_ (Steps.cons ?_ (Steps.cons ?_ (Steps.cons ?_ Steps.nil)))))))))))))
          · refine step_is _ rfl ⟨_, rfl⟩ rfl (fun _ _ => trivial) ?_
            intro a W hi hF hD
            have hu := hi.upd
            have e0 : a.tmps[0]?.getD undef = _ := (ev a 0).symm.trans (hF 0 (by kernel_rfl))
            clear hF hD
            go_simp
          · refine step_is _ rfl ⟨_, rfl⟩ rfl (fun _ _ => trivial) ?_
            intro a W hi hF hD
            have hu := hi.upd
            have e27 : a.tmps[27]?.getD undef = .string b := (ev a 27).symm.trans (hD _ (Array.mem_of_getElem? (i := 0) rfl) rfl).1
            clear hF hD
            have := q3.out
            go_simp
            intros
            omega
          · refine step_is _ rfl ⟨_, rfl⟩ rfl (fun _ _ => trivial) ?_
            intro a W hi hF hD
            have hu := hi.upd
            have e28 : a.tmps[28]?.getD undef = .int .u8 (byte b 1) := (ev a 28).symm.trans (hD _ (Array.mem_of_getElem? (i := 0) rfl) rfl).1
            clear hF hD
            have := byte_bd b 1
            go_simp
            exact IntWalk.i64_in _ (by omega)
          · refine step_is _ rfl ⟨_, rfl⟩ rfl (fun _ _ => trivial) ?_
            intro a W hi hF hD
            have hu := hi.upd
            have e0 : a.tmps[0]?.getD undef = _ := (ev a 0).symm.trans (hF 0 (by kernel_rfl))
            clear hF hD
            go_simp
          · refine step_call rfl (fun _ _ => trivial) ?_
            intro a W hi hF hD
            have hu := hi.upd
            have e30 : a.tmps[30]?.getD undef = .string b := (ev a 30).symm.trans (hD _ (Array.mem_of_getElem? (i := 0) rfl) rfl).1
            clear hF hD
            refine ⟨_, _, by (go_simp; first | done | rfl | exact ⟨rfl, rfl⟩), ?_⟩
            refine (tagNum_ok b 2 HB.out (by omega) _).mono ?_
            rintro e w2 ⟨rfl, hu2⟩
            first | exact ⟨_, rfl, hu2, rfl⟩ | (cases hu2; exact ⟨_, rfl, Upd.refl _ _, rfl⟩)
          · refine step_is _ rfl ⟨_, rfl⟩ rfl (fun _ _ => trivial) ?_
            intro a W hi hF hD
            have hu := hi.upd
            have e0 : a.tmps[0]?.getD undef = _ := (ev a 0).symm.trans (hF 0 (by kernel_rfl))
            clear hF hD
            go_simp
          · refine step_is _ rfl ⟨_, rfl⟩ rfl (fun _ _ => trivial) ?_
            intro a W hi hF hD
            have hu := hi.upd
            have e0 : a.tmps[0]?.getD undef = _ := (ev a 0).symm.trans (hF 0 (by kernel_rfl))
            clear hF hD
            go_simp
          · refine step_call rfl (fun _ _ => trivial) ?_
            intro a W hi hF hD
            have hu := hi.upd
            have e33 : a.tmps[33]?.getD undef = .string b := (ev a 33).symm.trans (hD _ (Array.mem_of_getElem? (i := 0) rfl) rfl).1
            clear hF hD
            refine ⟨_, _, by (go_simp; first | done | rfl | exact ⟨rfl, rfl⟩), ?_⟩
            refine (tagNum_ok b 4 HB.out (by omega) _).mono ?_
            rintro e w2 ⟨rfl, hu2⟩
            first | exact ⟨_, rfl, hu2, rfl⟩ | (cases hu2; exact ⟨_, rfl, Upd.refl _ _, rfl⟩)
          · refine step_is _ rfl ⟨_, rfl⟩ rfl (fun _ _ => trivial) ?_
            intro a W hi hF hD
            have hu := hi.upd
            have e34 : a.tmps[34]?.getD undef = .int .i64 (num b 4 2) := (ev a 34).symm.trans (hD _ (Array.mem_of_getElem? (i := 0) rfl) rfl).1
            clear hF hD
            have := HN.out
            go_simp
            exact IntWalk.i64_in _ (by omega)
          · refine step_is _ rfl ⟨_, rfl⟩ rfl (fun _ _ => trivial) ?_
            intro a W hi hF hD
            have hu := hi.upd
            have e32 : a.tmps[32]?.getD undef = .string b := (ev a 32).symm.trans (hD _ (Array.mem_of_getElem? (i := 0) rfl) rfl).1
            have e35 : a.tmps[35]?.getD undef = .int .i64 (6 + n) := (ev a 35).symm.trans (hD _ (Array.mem_of_getElem? (i := 1) rfl) rfl).1
            clear hF hD
            go_simp
            rw [if_pos (by omega), if_pos (by omega), show (6 + (n : Int)).toNat = 6 + n by omega]
          · refine step_call rfl (fun _ _ => trivial) ?_
            intro a W hi hF hD
            have hu := hi.upd
            have e36 : a.tmps[36]?.getD undef = .string (b.extract 6 (6 + n)) := (ev a 36).symm.trans (hD _ (Array.mem_of_getElem? (i := 0) rfl) rfl).1
            clear hF hD
            refine ⟨_, _, by (go_simp; first | done | rfl | exact ⟨rfl, rfl⟩), ?_⟩
            refine (clone_any _ _ (by rw [ByteArray.size_extract]; omega)).mono ?_
            rintro e w2 ⟨rfl, hu2⟩
            first | exact ⟨_, rfl, hu2, rfl⟩ | (cases hu2; exact ⟨_, rfl, Upd.refl _ _, rfl⟩)
          · refine step_is _ rfl ⟨_, rfl⟩ rfl (fun _ _ => trivial) ?_
            intro a W hi hF hD
            have hu := hi.upd
            have e29 : a.tmps[29]?.getD undef = .int .i64 (byte b 1) := (ev a 29).symm.trans (hD _ (Array.mem_of_getElem? (i := 0) rfl) rfl).1
            have e31 : a.tmps[31]?.getD undef = .int .i64 (num b 2 2) := (ev a 31).symm.trans (hD _ (Array.mem_of_getElem? (i := 1) rfl) rfl).1
            have e37 : a.tmps[37]?.getD undef = .string (b.extract 6 (6 + n)) := (ev a 37).symm.trans (hD _ (Array.mem_of_getElem? (i := 2) rfl) rfl).1
            clear hF hD
            go_simp
          · refine step_set rfl rfl rfl ?_
            intro a W hi hF hD
            have hu := hi.upd
            have e38 : a.tmps[38]?.getD undef = .agg #[.int .i64 (byte b 1), .int .i64 (num b 2 2), .string (b.extract 6 (6 + n))] := (ev a 38).symm.trans (hD _ (Array.mem_of_getElem? (i := 0) rfl) rfl).1
            have e2 : a.tmps[2]?.getD undef = _ := (ev a 2).symm.trans (hF 2 (by kernel_rfl))
            clear hF hD
            obtain ⟨c, hB, hc⟩ := hi.hold
            obtain ⟨x, y, z, rfl⟩ := arr3 hc
            have s0 := hB.cell 0
            have s1 := hB.cell 1
            have s2 := hB.cell 2
            have f0 := hB.frozen 0
            have f1 := hB.frozen 1
            have f2 := hB.frozen 2
            refine ⟨_, by (go_simp; rfl), Env.one_set ?_ ?_ rfl⟩
            · exact (((Upd.refl _ _).setCell _ (.inl (by simp))).setCell _ (.inl (by simp))).setCell _ (.inl (by simp))
            · exact ((hB.set_ 0 _).set_ 1 _).set_ 2 _
          · refine step_is _ rfl ⟨_, rfl⟩ rfl (fun _ _ => trivial) ?_
            intro a W hi hF hD
            have hu := hi.upd
            have k12 := (hD _ (Array.mem_of_getElem? (i := 0) rfl) rfl).2
            clear hF hD
            go_simp
        intro vals W hu hv
        have v0 : vals 0 = .string b := (hv 0 (by decide)).1
        have v1 : vals 1 = .int .u8 (byte b 1) := (hv 1 (by decide)).1
        have v2 : vals 2 = .int .i64 (byte b 1) := (hv 2 (by decide)).1
        have v3 : vals 3 = .string b := (hv 3 (by decide)).1
        have v4 : vals 4 = .int .i64 (num b 2 2) := (hv 4 (by decide)).1
        have v5 : vals 5 = .string b := (hv 5 (by decide)).1
        have v6 : vals 6 = .string b := (hv 6 (by decide)).1
        have v7 : vals 7 = .int .i64 (num b 4 2) := (hv 7 (by decide)).1
        have v8 : vals 8 = .int .i64 (6 + n) := (hv 8 (by decide)).1
        have v9 : vals 9 = .string (b.extract 6 (6 + n)) := (hv 9 (by decide)).1
        have v10 : vals 10 = .string (b.extract 6 (6 + n)) := (hv 10 (by decide)).1
        have v11 : vals 11 = .agg #[.int .i64 (byte b 1), .int .i64 (num b 2 2), .string (b.extract 6 (6 + n))] := (hv 11 (by decide)).1
        have v12 := (hv 12 (by decide)).2
        have v13 : vals 13 = .int .i64 0 := (hv 13 (by decide)).1
        clear hv
        simp only [putAll, Act.put, Nat.zero_add, Nat.reduceAdd, v0, v1, v2, v3, v4, v5, v6, v7, v8, v9, v10, v11, v13, List.setIfInBounds_toArray, List.set_cons_zero, List.set_cons_succ]
        clear v0 v1 v2 v3 v4 v5 v6 v7 v8 v9 v10 v11 v13
        have r0 := Blk.cell (show Blk W w.heap.size _ _ from v12) 0
        have r1 := Blk.cell (show Blk W w.heap.size _ _ from v12) 1
        have r2 := Blk.cell (show Blk W w.heap.size _ _ from v12) 2
        simp at r0 r1 r2
        have U1 : Upd [] w W := U0.trans' (show Upd [w.heap.size] w1 W from hu) (fun x hx => .inr (by simp at hx; omega))
        clear v12 hu
        go_wp2
        exact bodyPost_ret (v := .tuple #[Dc.val ⟨byte b 1, num b 2 2, b.extract 6 (6 + n)⟩, .int .i64 0]) (by simp [results, Tryz.results8, go_sem, Dc.val, r0, r1, r2]) rfl ⟨rfl, U1⟩
  · have H1 : Hid (Dc.get b = (.zero, 4)) := by
      show _ = _
      rw [Dc.get, if_neg t1, if_pos t2]
    rw [H1.out]
    have q1 := hbyte 0 (by omega)
    have q2 : ((b[0].toNat : Int) != 17) = true := by rw [q1]; simpa using t2
    clear q1 hbyte
    go_enter Tryz.func8, Tryz.ntmps8
    go_wp2
    exact bodyPost_ret (v := .tuple #[Dc.zero.val, .int .i64 4]) (by simp [results, Tryz.results8, go_sem, Dc.zero, Dc.val]) rfl ⟨rfl, (Upd.refl _ _).alloc _⟩
end Go.Proofs.YtomnnnjahpoggaaGreat
