/- The walks of the document's own answer to chapter 5: Put, Get, Find, Same. -/
import Derived.Test.YtomnnnjahpoggaaGreatRefW
import Derived.Test.YtomnnnjahpoggaaGreatTagE
namespace Go.Proofs.YtomnnnjahpoggaaGreat
open Go.RowKit
set_option linter.unusedSimpArgs false
set_option linter.unusedVariables false
set_option maxRecDepth 100000

theorem be1_cat (c : Int) (h : 0 ≤ c ∧ c ≤ 255) : (⟨#[17]⟩ : ByteArray) ++ be 1 c = strOfNums [17, IntKind.u8.wrap c] := by
  have e1 : byteAt c 1 0 = c := by simp [byteAt]; omega
  have e2 : IntKind.u8.wrap c = c := by
    show c % 256 = c
    omega
  have e3 : (List.range 1) = [0] := rfl
  rw [be, e3, List.map_cons, List.map_nil, e1, e2]
  apply ByteArray.ext
  simp [strOfNums]

set_option maxHeartbeats 2000000 in
theorem rput_any (d : Dc) (hd : d.data.size ≤ maxLen) (w : World) :
    Calls Tryz.prog 7 #[d.val] w fun e w' => e = .returned (.tuple #[.string d.put.1, .int .i64 d.put.2]) ∧ Upd [] w w' := by
  obtain ⟨c, s, b⟩ := d
  simp only [Dc.val, Dc.put]
  simp only [maxLen] at hd
  by_cases t1 : 0 ≤ c ∧ c ≤ 255
  rotate_left
  · have H1 : Hid ((if ¬ (0 ≤ c ∧ c ≤ 255) ∨ ¬ (0 ≤ s ∧ s ≤ 65535) then ((⟨#[]⟩, 1) : ByteArray × Int) else if 1494 < b.size then (⟨#[]⟩, 2) else (Dc.bytes ⟨c, s, b⟩, 0)) = (⟨#[]⟩, 1)) := if_pos (.inl t1)
    rw [H1.out]
    by_cases t2 : c < 0
    · clear t1 H1
      go_enter Tryz.func7, Tryz.ntmps7
      go_wp2_with fail
      go_ret2
      exact ⟨rfl, (Upd.refl _ _).alloc _⟩
    · have t3 : 255 < c := by omega
      clear t1 H1
      go_enter Tryz.func7, Tryz.ntmps7
      go_wp2_with fail
      go_ret2
      exact ⟨rfl, (Upd.refl _ _).alloc _⟩
  obtain ⟨c0, c1⟩ := t1
  have C0 : ¬ c < 0 := by omega
  have C1 : ¬ 255 < c := by omega
  by_cases t2 : 0 ≤ s ∧ s ≤ 65535
  rotate_left
  · have H1 : Hid ((if ¬ (0 ≤ c ∧ c ≤ 255) ∨ ¬ (0 ≤ s ∧ s ≤ 65535) then ((⟨#[]⟩, 1) : ByteArray × Int) else if 1494 < b.size then (⟨#[]⟩, 2) else (Dc.bytes ⟨c, s, b⟩, 0)) = (⟨#[]⟩, 1)) := if_pos (.inr t2)
    rw [H1.out]
    by_cases t4 : s < 0
    · clear t2 H1
      go_enter Tryz.func7, Tryz.ntmps7
      go_wp2_with fail
      go_ret2
      exact ⟨rfl, (Upd.refl _ _).alloc _⟩
    · have t3 : 65535 < s := by omega
      clear t2 H1
      go_enter Tryz.func7, Tryz.ntmps7
      go_wp2_with fail
      go_ret2
      exact ⟨rfl, (Upd.refl _ _).alloc _⟩
  obtain ⟨s0, s1⟩ := t2
  have S0 : ¬ s < 0 := by omega
  have S1 : ¬ 65535 < s := by omega
  by_cases t5 : 1494 < b.size
  · have H1 : Hid ((if ¬ (0 ≤ c ∧ c ≤ 255) ∨ ¬ (0 ≤ s ∧ s ≤ 65535) then ((⟨#[]⟩, 1) : ByteArray × Int) else if 1494 < b.size then (⟨#[]⟩, 2) else (Dc.bytes ⟨c, s, b⟩, 0)) = (⟨#[]⟩, 2)) := by
      show _ = _
      rw [if_neg (by omega), if_pos t5]
    rw [H1.out]
    have t5' : (1494 : Int) < b.size := by omega
    go_enter Tryz.func7, Tryz.ntmps7
    go_wp2_with fail
    go_ret2
    exact ⟨rfl, (Upd.refl _ _).alloc _⟩
  have H1 : Hid ((if ¬ (0 ≤ c ∧ c ≤ 255) ∨ ¬ (0 ≤ s ∧ s ≤ 65535) then ((⟨#[]⟩, 1) : ByteArray × Int) else if 1494 < b.size then (⟨#[]⟩, 2) else (Dc.bytes ⟨c, s, b⟩, 0)) = (Dc.bytes ⟨c, s, b⟩, 0)) := by
    show _ = _
    rw [if_neg (by omega), if_neg t5]
  rw [H1.out]
  have t5' : ¬ (1494 : Int) < b.size := by omega
  have HB1 := Lib.hid (be1_cat c ⟨c0, c1⟩)
  go_enter Tryz.func7, Tryz.ntmps7
  go_wp2_with fail
  obtain ⟨A, hA⟩ : ∃ A, A = Obj.cells #[Value.int IntKind.i64 c, Value.int IntKind.i64 s, Value.string b] 23 := ⟨_, rfl⟩
  have A0 : Blk (w.alloc A) w.heap.size 23 #[Value.int IntKind.i64 c, Value.int IntKind.i64 s, Value.string b] := by rw [hA]; exact Blk.new _ _ _
  have U0 : Upd [] w (w.alloc A) := (Upd.refl [] w).alloc A
  rw [← hA]
  clear hA
  generalize w.alloc A = w1 at *
  have hcells : ∀ W, Upd [] w1 W → W.cell? ⟨w.heap.size, 0, none⟩ = some (.int .i64 c) ∧ W.cell? ⟨w.heap.size, 1, none⟩ = some (.int .i64 s) ∧ W.cell? ⟨w.heap.size, 2, none⟩ = some (.string b) := fun W hu =>
    ⟨(A0.upd hu (by simp)).cell 0, (A0.upd hu (by simp)).cell 1, (A0.upd hu (by simp)).cell 2⟩
  refine wp_region_facts (.pure) (trivial) [.is (.pointer (some ⟨w.heap.size, 0, none⟩)), .is (.int .i64 c), .is (.string (be 1 c)), .is (.string (strOfNums [17, IntKind.u8.wrap c])), .is (.pointer (some ⟨w.heap.size, 1, none⟩)), .is (.int .i64 s), .is (.string (be 2 s)), .is (.string (strOfNums [17, IntKind.u8.wrap c] ++ be 2 s)), .is (.pointer (some ⟨w.heap.size, 2, none⟩)), .is (.string b), .is (.int .i64 b.size), .is (.string (be 2 b.size)), .is (.string (strOfNums [17, IntKind.u8.wrap c] ++ be 2 s ++ be 2 b.size)), .is (.pointer (some ⟨w.heap.size, 2, none⟩)), .is (.string b), .is (.string (Dc.bytes ⟨c, s, b⟩)), .is (.string (Dc.bytes ⟨c, s, b⟩)), .is (.int .i64 0)] (by kernel_rfl) (by kernel_rfl) (by kernel_rfl) (by kernel_rfl) ?_ ?_
  · refine Steps.cons ?_ (Steps.cons ?_ (Steps.cons ?_ (Steps.cons ?_ (Steps.cons ?_ (Steps.cons ?_ (Steps.cons ?_ (Steps.cons ?_ (Steps.cons ?_ (Steps.cons ?_ (Steps.cons ?_ (Steps.cons ?_ (Steps.cons ?_ (Steps.cons ?_ (Steps.cons ?_ (Steps.cons ?_ (Steps.cons ?_ (Steps.cons ?_ Steps.nil)))))))))))))))))
    · refine step_is _ rfl ⟨_, rfl⟩ rfl (fun _ _ => trivial) ?_
      intro a W hi hF hD
      have hu := hi.upd
      have e1 : a.tmps[1]?.getD undef = _ := (ev a 1).symm.trans (hF 1 (by kernel_rfl))
      clear hF hD
      have hc := hcells W hu
      go_simp
    · refine step_is _ rfl ⟨_, rfl⟩ rfl (fun _ _ => trivial) ?_
      intro a W hi hF hD
      have hu := hi.upd
      have e26 : a.tmps[26]?.getD undef = .pointer (some ⟨w.heap.size, 0, none⟩) := (ev a 26).symm.trans (hD _ (Array.mem_of_getElem? (i := 0) rfl) rfl).1
      clear hF hD
      have hc := hcells W hu
      go_simp
    · refine step_call rfl (fun _ _ => trivial) ?_
      intro a W hi hF hD
      have hu := hi.upd
      have e27 : a.tmps[27]?.getD undef = .int .i64 c := (ev a 27).symm.trans (hD _ (Array.mem_of_getElem? (i := 0) rfl) rfl).1
      clear hF hD
      have hc := hcells W hu
      refine ⟨_, _, by (go_simp; first | done | rfl | exact ⟨rfl, rfl⟩), ?_⟩
      refine (rlow_any c 1 (by omega) (by omega) (by omega) _).mono ?_
      rintro e w2 ⟨rfl, hu2⟩
      first | exact ⟨_, rfl, hu2, rfl⟩ | (cases hu2; exact ⟨_, rfl, Upd.refl _ _, rfl⟩)
    · refine step_is _ rfl ⟨_, rfl⟩ rfl (fun _ _ => trivial) ?_
      intro a W hi hF hD
      have hu := hi.upd
      have e28 : a.tmps[28]?.getD undef = .string (be 1 c) := (ev a 28).symm.trans (hD _ (Array.mem_of_getElem? (i := 0) rfl) rfl).1
      clear hF hD
      have hc := hcells W hu
      have := run_string_add_sum (P := Tryz.prog) W ⟨#[17]⟩ (be 1 c) (by rw [be_size]; decide)
      rw [HB1.out] at this
      go_simp
    · refine step_is _ rfl ⟨_, rfl⟩ rfl (fun _ _ => trivial) ?_
      intro a W hi hF hD
      have hu := hi.upd
      have e1 : a.tmps[1]?.getD undef = _ := (ev a 1).symm.trans (hF 1 (by kernel_rfl))
      clear hF hD
      have hc := hcells W hu
      go_simp
    · refine step_is _ rfl ⟨_, rfl⟩ rfl (fun _ _ => trivial) ?_
      intro a W hi hF hD
      have hu := hi.upd
      have e30 : a.tmps[30]?.getD undef = .pointer (some ⟨w.heap.size, 1, none⟩) := (ev a 30).symm.trans (hD _ (Array.mem_of_getElem? (i := 0) rfl) rfl).1
      clear hF hD
      have hc := hcells W hu
      go_simp
    · refine step_call rfl (fun _ _ => trivial) ?_
      intro a W hi hF hD
      have hu := hi.upd
      have e31 : a.tmps[31]?.getD undef = .int .i64 s := (ev a 31).symm.trans (hD _ (Array.mem_of_getElem? (i := 0) rfl) rfl).1
      clear hF hD
      have hc := hcells W hu
      refine ⟨_, _, by (go_simp; first | done | rfl | exact ⟨rfl, rfl⟩), ?_⟩
      refine (rtwo_any s (by omega) _).mono ?_
      rintro e w2 ⟨rfl, hu2⟩
      first | exact ⟨_, rfl, hu2, rfl⟩ | (cases hu2; exact ⟨_, rfl, Upd.refl _ _, rfl⟩)
    · refine step_is _ rfl ⟨_, rfl⟩ rfl (fun _ _ => trivial) ?_
      intro a W hi hF hD
      have hu := hi.upd
      have e29 : a.tmps[29]?.getD undef = .string (strOfNums [17, IntKind.u8.wrap c]) := (ev a 29).symm.trans (hD _ (Array.mem_of_getElem? (i := 0) rfl) rfl).1
      have e32 : a.tmps[32]?.getD undef = .string (be 2 s) := (ev a 32).symm.trans (hD _ (Array.mem_of_getElem? (i := 1) rfl) rfl).1
      clear hF hD
      have hc := hcells W hu
      have := run_string_add_sum (P := Tryz.prog) W (strOfNums [17, IntKind.u8.wrap c]) (be 2 s) (by rw [strOfNums_size, be_size]; simp)
      go_simp
    · refine step_is _ rfl ⟨_, rfl⟩ rfl (fun _ _ => trivial) ?_
      intro a W hi hF hD
      have hu := hi.upd
      have e1 : a.tmps[1]?.getD undef = _ := (ev a 1).symm.trans (hF 1 (by kernel_rfl))
      clear hF hD
      have hc := hcells W hu
      go_simp
    · refine step_is _ rfl ⟨_, rfl⟩ rfl (fun _ _ => trivial) ?_
      intro a W hi hF hD
      have hu := hi.upd
      have e34 : a.tmps[34]?.getD undef = .pointer (some ⟨w.heap.size, 2, none⟩) := (ev a 34).symm.trans (hD _ (Array.mem_of_getElem? (i := 0) rfl) rfl).1
      clear hF hD
      have hc := hcells W hu
      go_simp
    · refine step_is _ rfl ⟨_, rfl⟩ rfl (fun _ _ => trivial) ?_
      intro a W hi hF hD
      have hu := hi.upd
      have e35 : a.tmps[35]?.getD undef = .string b := (ev a 35).symm.trans (hD _ (Array.mem_of_getElem? (i := 0) rfl) rfl).1
      clear hF hD
      have hc := hcells W hu
      go_simp
    · refine step_call rfl (fun _ _ => trivial) ?_
      intro a W hi hF hD
      have hu := hi.upd
      have e36 : a.tmps[36]?.getD undef = .int .i64 b.size := (ev a 36).symm.trans (hD _ (Array.mem_of_getElem? (i := 0) rfl) rfl).1
      clear hF hD
      have hc := hcells W hu
      refine ⟨_, _, by (go_simp; first | done | rfl | exact ⟨rfl, rfl⟩), ?_⟩
      refine (rtwo_any b.size (by omega) _).mono ?_
      rintro e w2 ⟨rfl, hu2⟩
      first | exact ⟨_, rfl, hu2, rfl⟩ | (cases hu2; exact ⟨_, rfl, Upd.refl _ _, rfl⟩)
    · refine step_is _ rfl ⟨_, rfl⟩ rfl (fun _ _ => trivial) ?_
      intro a W hi hF hD
      have hu := hi.upd
      have e33 : a.tmps[33]?.getD undef = .string (strOfNums [17, IntKind.u8.wrap c] ++ be 2 s) := (ev a 33).symm.trans (hD _ (Array.mem_of_getElem? (i := 0) rfl) rfl).1
      have e37 : a.tmps[37]?.getD undef = .string (be 2 b.size) := (ev a 37).symm.trans (hD _ (Array.mem_of_getElem? (i := 1) rfl) rfl).1
      clear hF hD
      have hc := hcells W hu
      have := run_string_add_sum (P := Tryz.prog) W (strOfNums [17, IntKind.u8.wrap c] ++ be 2 s) (be 2 b.size) (by rw [ByteArray.size_append, strOfNums_size, be_size, be_size]; simp)
      go_simp
    · refine step_is _ rfl ⟨_, rfl⟩ rfl (fun _ _ => trivial) ?_
      intro a W hi hF hD
      have hu := hi.upd
      have e1 : a.tmps[1]?.getD undef = _ := (ev a 1).symm.trans (hF 1 (by kernel_rfl))
      clear hF hD
      have hc := hcells W hu
      go_simp
    · refine step_is _ rfl ⟨_, rfl⟩ rfl (fun _ _ => trivial) ?_
      intro a W hi hF hD
      have hu := hi.upd
      have e39 : a.tmps[39]?.getD undef = .pointer (some ⟨w.heap.size, 2, none⟩) := (ev a 39).symm.trans (hD _ (Array.mem_of_getElem? (i := 0) rfl) rfl).1
      clear hF hD
      have hc := hcells W hu
      go_simp
    · refine step_is _ rfl ⟨_, rfl⟩ rfl (fun _ _ => trivial) ?_
      intro a W hi hF hD
      have hu := hi.upd
      have e38 : a.tmps[38]?.getD undef = .string (strOfNums [17, IntKind.u8.wrap c] ++ be 2 s ++ be 2 b.size) := (ev a 38).symm.trans (hD _ (Array.mem_of_getElem? (i := 0) rfl) rfl).1
      have e40 : a.tmps[40]?.getD undef = .string b := (ev a 40).symm.trans (hD _ (Array.mem_of_getElem? (i := 1) rfl) rfl).1
      clear hF hD
      have hc := hcells W hu
      have := run_string_add_sum (P := Tryz.prog) W (strOfNums [17, IntKind.u8.wrap c] ++ be 2 s ++ be 2 b.size) b (by rw [ByteArray.size_append, ByteArray.size_append, strOfNums_size, be_size, be_size]; simp; omega)
      go_simp
      rfl
    · refine step_is _ rfl ⟨_, rfl⟩ rfl (fun _ _ => trivial) ?_
      intro a W hi hF hD
      have hu := hi.upd
      have e41 : a.tmps[41]?.getD undef = .string (Dc.bytes ⟨c, s, b⟩) := (ev a 41).symm.trans (hD _ (Array.mem_of_getElem? (i := 0) rfl) rfl).1
      clear hF hD
      have hc := hcells W hu
      go_simp
    · refine step_is _ rfl ⟨_, rfl⟩ rfl (fun _ _ => trivial) ?_
      intro a W hi hF hD
      have hu := hi.upd
      clear hF hD
      have hc := hcells W hu
      go_simp
  intro vals W hu hv
  have v0 : vals 0 = .pointer (some ⟨w.heap.size, 0, none⟩) := (hv 0 (by decide)).1
  have v1 : vals 1 = .int .i64 c := (hv 1 (by decide)).1
  have v2 : vals 2 = .string (be 1 c) := (hv 2 (by decide)).1
  have v3 : vals 3 = .string (strOfNums [17, IntKind.u8.wrap c]) := (hv 3 (by decide)).1
  have v4 : vals 4 = .pointer (some ⟨w.heap.size, 1, none⟩) := (hv 4 (by decide)).1
  have v5 : vals 5 = .int .i64 s := (hv 5 (by decide)).1
  have v6 : vals 6 = .string (be 2 s) := (hv 6 (by decide)).1
  have v7 : vals 7 = .string (strOfNums [17, IntKind.u8.wrap c] ++ be 2 s) := (hv 7 (by decide)).1
  have v8 : vals 8 = .pointer (some ⟨w.heap.size, 2, none⟩) := (hv 8 (by decide)).1
  have v9 : vals 9 = .string b := (hv 9 (by decide)).1
  have v10 : vals 10 = .int .i64 b.size := (hv 10 (by decide)).1
  have v11 : vals 11 = .string (be 2 b.size) := (hv 11 (by decide)).1
  have v12 : vals 12 = .string (strOfNums [17, IntKind.u8.wrap c] ++ be 2 s ++ be 2 b.size) := (hv 12 (by decide)).1
  have v13 : vals 13 = .pointer (some ⟨w.heap.size, 2, none⟩) := (hv 13 (by decide)).1
  have v14 : vals 14 = .string b := (hv 14 (by decide)).1
  have v15 : vals 15 = .string (Dc.bytes ⟨c, s, b⟩) := (hv 15 (by decide)).1
  have v16 : vals 16 = .string (Dc.bytes ⟨c, s, b⟩) := (hv 16 (by decide)).1
  have v17 : vals 17 = .int .i64 0 := (hv 17 (by decide)).1
  clear hv
  simp only [putAll, Act.put, Nat.zero_add, Nat.reduceAdd, v0, v1, v2, v3, v4, v5, v6, v7, v8, v9, v10, v11, v12, v13, v14, v15, v16, v17, List.setIfInBounds_toArray, List.set_cons_zero, List.set_cons_succ]
  clear v0 v1 v2 v3 v4 v5 v6 v7 v8 v9 v10 v11 v12 v13 v14 v15 v16 v17
  go_wp2
  go_ret2
  exact ⟨rfl, U0.trans hu⟩

set_option maxHeartbeats 1000000 in
theorem rget_any (b : ByteArray) (hb : b.size ≤ maxLen) (w : World) :
    Calls Tryz.prog 9 #[.string b] w fun e w' => e = .returned (.tuple #[(Dc.get b).1.val, .int .i64 (Dc.get b).2]) ∧ Upd [] w w' := by
  have HB := Lib.hid hb
  simp only [maxLen] at hb
  by_cases t1 : b.size < 6
  · have H1 : Hid (Dc.get b = (.zero, 5)) := if_pos t1
    rw [H1.out]
    go_enter Tryz.func9, Tryz.ntmps9
    go_wp2
    exact bodyPost_ret (v := .tuple #[Dc.zero.val, .int .i64 5]) (by simp [results, Tryz.results9, go_sem, Dc.zero, Dc.val]) rfl ⟨rfl, (Upd.refl _ _).alloc _⟩
  have hbyte : ∀ i (h : i < b.size), ((b[i].toNat : Int)) = byte b i := byte_get b
  have t1' : ¬ ((b.size : Int) < 6) := by omega
  have hN := num_bd b 4 2
  by_cases t2 : byte b 0 = 17
  · have q1 := hbyte 0 (by omega)
    have q2 : ((b[0].toNat : Int) != 17) = false := by rw [q1]; simpa using t2
    have q3 := Lib.hid (hbyte 1 (by omega))
    clear q1 hbyte
    by_cases t3 : 1494 < num b 4 2
    · have H1 : Hid (Dc.get b = (.zero, 2)) := by
        show _ = _
        rw [Dc.get, if_neg t1, if_neg (by simpa using t2), if_pos t3]
      rw [H1.out]
      clear t2
      go_enter Tryz.func9, Tryz.ntmps9
      go_wp2_with (go_at_call 29; refine (rnum_any b 4 HB.out (by omega) _).mono ?_; rintro e w1 ⟨rfl, hu1⟩; have HU1 := Lib.hid hu1; have B1 := ((Blk.new w 23 #[Value.int IntKind.i64 0, Value.int IntKind.i64 0, Value.string { data := #[] }]).upd hu1 (by simp)); have s0 := B1.cell 0; have s1 := B1.cell 1; have s2 := B1.cell 2; have f0 := B1.frozen 0; have f1 := B1.frozen 1; have f2 := B1.frozen 2; have hlt := B1.lt; clear hu1 B1; simp at s0 s1 s2)
      exact bodyPost_ret (v := .tuple #[Dc.zero.val, .int .i64 2]) (by simp [results, Tryz.results9, go_sem, Dc.zero, Dc.val, s0, s1, s2]) rfl ⟨rfl, (((((Upd.refl _ _).alloc _).trans HU1.out).setCell _ (.inr (Nat.le_refl _))).setCell _ (.inr (Nat.le_refl _))).setCell _ (.inr (Nat.le_refl _))⟩
    · by_cases t4 : (b.size : Int) - 6 < num b 4 2
      · have H1 : Hid (Dc.get b = (.zero, 5)) := by
          show _ = _
          rw [Dc.get, if_neg t1, if_neg (by simpa using t2), if_neg t3, if_pos t4]
        rw [H1.out]
        clear t2
        go_enter Tryz.func9, Tryz.ntmps9
        go_wp2_with (go_at_call 29; refine (rnum_any b 4 HB.out (by omega) _).mono ?_; rintro e w1 ⟨rfl, hu1⟩; have HU1 := Lib.hid hu1; have B1 := ((Blk.new w 23 #[Value.int IntKind.i64 0, Value.int IntKind.i64 0, Value.string { data := #[] }]).upd hu1 (by simp)); have s0 := B1.cell 0; have s1 := B1.cell 1; have s2 := B1.cell 2; have f0 := B1.frozen 0; have f1 := B1.frozen 1; have f2 := B1.frozen 2; have hlt := B1.lt; clear hu1 B1; simp at s0 s1 s2)
        exact bodyPost_ret (v := .tuple #[Dc.zero.val, .int .i64 5]) (by simp [results, Tryz.results9, go_sem, Dc.zero, Dc.val, s0, s1, s2]) rfl ⟨rfl, (((((Upd.refl _ _).alloc _).trans HU1.out).setCell _ (.inr (Nat.le_refl _))).setCell _ (.inr (Nat.le_refl _))).setCell _ (.inr (Nat.le_refl _))⟩
      · have H1 : Hid (Dc.get b = (⟨byte b 1, num b 2 2, b.extract 6 (6 + (num b 4 2).toNat)⟩, 0)) := by
          show _ = _
          rw [Dc.get, if_neg t1, if_neg (by simpa using t2), if_neg t3, if_neg t4]
        rw [H1.out]
        clear t2
        obtain ⟨n, hn⟩ : ∃ n : Nat, num b 4 2 = n := Int.eq_ofNat_of_zero_le hN.1
        have HN := Lib.hid hn
        have t5 : ¬ ((1494 : Int) < n) := by omega
        have t6 : ¬ ((b.size : Int) - 6 < n) := by omega
        have H2 : Hid ((num b 4 2).toNat = n) := by show _ = _; omega
        rw [H2.out]
        clear hN hn t3 t4 H1 H2
        go_enter Tryz.func9, Tryz.ntmps9
        go_wp2_with (go_at_call 29; refine (rnum_any b 4 HB.out (by omega) _).mono ?_; rintro e w1 ⟨rfl, hu1⟩; rw [HN.out]; have U0 : Upd [] w w1 := ((Upd.refl _ _).alloc _).trans hu1; have B0 := ((Blk.new w 23 #[Value.int IntKind.i64 0, Value.int IntKind.i64 0, Value.string { data := #[] }]).upd hu1 (by simp)); clear hu1)
        refine wp_region_facts (.one 10 w.heap.size 23 3 #[.int .i64 (byte b 1), .int .i64 (num b 2 2), .string (b.extract 6 (6 + n))]) (⟨_, B0, rfl⟩) [.is (.string b), .is (.int .u8 (byte b 1)), .is (.int .i64 (byte b 1)), .is (.string b), .is (.int .i64 (num b 2 2)), .is (.string b), .is (.int .i64 n), .is (.int .i64 (6 + n)), .is (.string (b.extract 6 (6 + n))), .is (.agg #[.int .i64 (byte b 1), .int .i64 (num b 2 2), .string (b.extract 6 (6 + n))]), .any, .is (.int .i64 0)] (by kernel_rfl) (by kernel_rfl) (by kernel_rfl) (by kernel_rfl) ?_ ?_
        · refine Steps.cons ?_ (Steps.cons ?_ (Steps.cons ?_ (Steps.cons ?_ (Steps.cons ?_ (Steps.cons ?_ (Steps.cons ?_ (Steps.cons ?_ (Steps.cons ?_ (Steps.cons ?_ (Steps.cons ?_ (Steps.cons ?_ Steps.nil)))))))))))
          · refine step_is _ rfl ⟨_, rfl⟩ rfl (fun _ _ => trivial) ?_
            intro a W hi hF hD
            have hu := hi.upd
            have e0 : a.tmps[0]?.getD undef = _ := (ev a 0).symm.trans (hF 0 (by kernel_rfl))
            clear hF hD
            go_simp
          · refine step_is _ rfl ⟨_, rfl⟩ rfl (fun _ _ => trivial) ?_
            intro a W hi hF hD
            have hu := hi.upd
            have e24 : a.tmps[24]?.getD undef = .string b := (ev a 24).symm.trans (hD _ (Array.mem_of_getElem? (i := 0) rfl) rfl).1
            clear hF hD
            have := q3.out
            go_simp
            intros
            omega
          · refine step_is _ rfl ⟨_, rfl⟩ rfl (fun _ _ => trivial) ?_
            intro a W hi hF hD
            have hu := hi.upd
            have e25 : a.tmps[25]?.getD undef = .int .u8 (byte b 1) := (ev a 25).symm.trans (hD _ (Array.mem_of_getElem? (i := 0) rfl) rfl).1
            clear hF hD
            have := byte_bd b 1
            go_simp
            exact IntWalk.i64_in _ (by omega)
          · refine step_is _ rfl ⟨_, rfl⟩ rfl (fun _ _ => trivial) ?_
            intro a W hi hF hD
            have hu := hi.upd
            have e0 : a.tmps[0]?.getD undef = _ := (ev a 0).symm.trans (hF 0 (by kernel_rfl))
            clear hF hD
            go_simp
          · refine step_call rfl (fun _ _ => trivial) ?_
            intro a W hi hF hD
            have hu := hi.upd
            have e27 : a.tmps[27]?.getD undef = .string b := (ev a 27).symm.trans (hD _ (Array.mem_of_getElem? (i := 0) rfl) rfl).1
            clear hF hD
            refine ⟨_, _, by (go_simp; first | done | rfl | exact ⟨rfl, rfl⟩), ?_⟩
            refine (rnum_any b 2 HB.out (by omega) _).mono ?_
            rintro e w2 ⟨rfl, hu2⟩
            first | exact ⟨_, rfl, hu2, rfl⟩ | (cases hu2; exact ⟨_, rfl, Upd.refl _ _, rfl⟩)
          · refine step_is _ rfl ⟨_, rfl⟩ rfl (fun _ _ => trivial) ?_
            intro a W hi hF hD
            have hu := hi.upd
            have e0 : a.tmps[0]?.getD undef = _ := (ev a 0).symm.trans (hF 0 (by kernel_rfl))
            clear hF hD
            go_simp
          · refine step_is _ rfl ⟨_, rfl⟩ rfl (fun _ _ => trivial) ?_
            intro a W hi hF hD
            have hu := hi.upd
            have e4 : a.tmps[4]?.getD undef = _ := (ev a 4).symm.trans (hF 4 (by kernel_rfl))
            clear hF hD
            go_simp
          · refine step_is _ rfl ⟨_, rfl⟩ rfl (fun _ _ => trivial) ?_
            intro a W hi hF hD
            have hu := hi.upd
            have e30 : a.tmps[30]?.getD undef = .int .i64 n := (ev a 30).symm.trans (hD _ (Array.mem_of_getElem? (i := 0) rfl) rfl).1
            clear hF hD
            go_simp
            exact IntWalk.i64_in _ (by omega)
          · refine step_is _ rfl ⟨_, rfl⟩ rfl (fun _ _ => trivial) ?_
            intro a W hi hF hD
            have hu := hi.upd
            have e29 : a.tmps[29]?.getD undef = .string b := (ev a 29).symm.trans (hD _ (Array.mem_of_getElem? (i := 0) rfl) rfl).1
            have e31 : a.tmps[31]?.getD undef = .int .i64 (6 + n) := (ev a 31).symm.trans (hD _ (Array.mem_of_getElem? (i := 1) rfl) rfl).1
            clear hF hD
            go_simp
            rw [if_pos (by omega), if_pos (by omega), show (6 + (n : Int)).toNat = 6 + n by omega]
          · refine step_is _ rfl ⟨_, rfl⟩ rfl (fun _ _ => trivial) ?_
            intro a W hi hF hD
            have hu := hi.upd
            have e26 : a.tmps[26]?.getD undef = .int .i64 (byte b 1) := (ev a 26).symm.trans (hD _ (Array.mem_of_getElem? (i := 0) rfl) rfl).1
            have e28 : a.tmps[28]?.getD undef = .int .i64 (num b 2 2) := (ev a 28).symm.trans (hD _ (Array.mem_of_getElem? (i := 1) rfl) rfl).1
            have e32 : a.tmps[32]?.getD undef = .string (b.extract 6 (6 + n)) := (ev a 32).symm.trans (hD _ (Array.mem_of_getElem? (i := 2) rfl) rfl).1
            clear hF hD
            go_simp
          · refine step_set rfl rfl rfl ?_
            intro a W hi hF hD
            have hu := hi.upd
            have e33 : a.tmps[33]?.getD undef = .agg #[.int .i64 (byte b 1), .int .i64 (num b 2 2), .string (b.extract 6 (6 + n))] := (ev a 33).symm.trans (hD _ (Array.mem_of_getElem? (i := 0) rfl) rfl).1
            have e2 : a.tmps[2]?.getD undef = _ := (ev a 2).symm.trans (hF 2 (by kernel_rfl))
            clear hF hD
            obtain ⟨c, hB, hc⟩ := hi.hold
            obtain ⟨x, y, z, rfl⟩ := arr3 hc
            have s0 := hB.cell 0
            have s1 := hB.cell 1
            have s2 := hB.cell 2
            have f0 := hB.frozen 0
            have f1 := hB.frozen 1
            have f2 := hB.frozen 2
            refine ⟨_, by (go_simp; rfl), Env.one_set ?_ ?_ rfl⟩
            · exact (((Upd.refl _ _).setCell _ (.inl (by simp))).setCell _ (.inl (by simp))).setCell _ (.inl (by simp))
            · exact ((hB.set_ 0 _).set_ 1 _).set_ 2 _
          · refine step_is _ rfl ⟨_, rfl⟩ rfl (fun _ _ => trivial) ?_
            intro a W hi hF hD
            have hu := hi.upd
            have k10 := (hD _ (Array.mem_of_getElem? (i := 0) rfl) rfl).2
            clear hF hD
            go_simp
        intro vals W hu hv
        have v0 : vals 0 = .string b := (hv 0 (by decide)).1
        have v1 : vals 1 = .int .u8 (byte b 1) := (hv 1 (by decide)).1
        have v2 : vals 2 = .int .i64 (byte b 1) := (hv 2 (by decide)).1
        have v3 : vals 3 = .string b := (hv 3 (by decide)).1
        have v4 : vals 4 = .int .i64 (num b 2 2) := (hv 4 (by decide)).1
        have v5 : vals 5 = .string b := (hv 5 (by decide)).1
        have v6 : vals 6 = .int .i64 n := (hv 6 (by decide)).1
        have v7 : vals 7 = .int .i64 (6 + n) := (hv 7 (by decide)).1
        have v8 : vals 8 = .string (b.extract 6 (6 + n)) := (hv 8 (by decide)).1
        have v9 : vals 9 = .agg #[.int .i64 (byte b 1), .int .i64 (num b 2 2), .string (b.extract 6 (6 + n))] := (hv 9 (by decide)).1
        have v10 := (hv 10 (by decide)).2
        have v11 : vals 11 = .int .i64 0 := (hv 11 (by decide)).1
        clear hv
        simp only [putAll, Act.put, Nat.zero_add, Nat.reduceAdd, v0, v1, v2, v3, v4, v5, v6, v7, v8, v9, v11, List.setIfInBounds_toArray, List.set_cons_zero, List.set_cons_succ]
        clear v0 v1 v2 v3 v4 v5 v6 v7 v8 v9 v11
        have r0 := Blk.cell (show Blk W w.heap.size _ _ from v10) 0
        have r1 := Blk.cell (show Blk W w.heap.size _ _ from v10) 1
        have r2 := Blk.cell (show Blk W w.heap.size _ _ from v10) 2
        simp at r0 r1 r2
        have U1 : Upd [] w W := U0.trans' (show Upd [w.heap.size] w1 W from hu) (fun x hx => .inr (by simp at hx; omega))
        clear v10 hu
        go_wp2
        exact bodyPost_ret (v := .tuple #[Dc.val ⟨byte b 1, num b 2 2, b.extract 6 (6 + n)⟩, .int .i64 0]) (by simp [results, Tryz.results9, go_sem, Dc.val, r0, r1, r2]) rfl ⟨rfl, U1⟩
  · have H1 : Hid (Dc.get b = (.zero, 4)) := by
      show _ = _
      rw [Dc.get, if_neg t1, if_pos t2]
    rw [H1.out]
    have q1 := hbyte 0 (by omega)
    have q2 : ((b[0].toNat : Int) != 17) = true := by rw [q1]; simpa using t2
    clear q1 hbyte
    go_enter Tryz.func9, Tryz.ntmps9
    go_wp2
    exact bodyPost_ret (v := .tuple #[Dc.zero.val, .int .i64 4]) (by simp [results, Tryz.results9, go_sem, Dc.zero, Dc.val]) rfl ⟨rfl, (Upd.refl _ _).alloc _⟩

set_option maxHeartbeats 1000000 in
theorem rfind_any (l : List Tg) (v : Value) (kind : Int) (w : World) (hl : TgsAt w v l) :
    Calls Tryz.prog 16 #[v, .int .i64 kind] w fun e w' => e = .returned (.tuple #[.string (findTg kind l (⟨#[]⟩, 0)).1, .int .i64 (findTg kind l (⟨#[]⟩, 0)).2]) ∧ Upd [] w w' := by
  obtain ⟨ao, cap, rfl, h1, h2, h3⟩ := id hl
  obtain ⟨n, hn⟩ : ∃ n, n = l.length := ⟨_, rfl⟩
  rw [← hn] at h1
  rw [← hn]
  have HL := Lib.hid hl
  have HN := Lib.hid hn
  simp only [maxLen] at h2
  clear h3 hl hn
  go_enter Tryz.func16, Tryz.ntmps16
  go_wp2
  go_loopg [6, 7, 8] n (fun m s6 s7 s8 wr => ∃ k : Nat, k + m = n ∧ s8 = .int .i64 k ∧ ∃ p : ByteArray × Nat, s6 = .string p.1 ∧ s7 = .int .i64 p.2 ∧ p.2 ≤ k ∧ findTg kind (l.drop k) p = findTg kind l (⟨#[]⟩, 0) ∧ Upd [] w wr)
  case atStart => exact ⟨0, by omega, rfl, (⟨#[]⟩, 0), rfl, rfl, by simp, rfl, Upd.refl _ _⟩
  case round =>
    obtain ⟨k, hk, rfl, p, rfl, rfl, hp, hf, hu⟩ := hrel
    by_cases t : k < n
    · obtain ⟨x, hx⟩ : ∃ x, l[k]? = some x := by
        have := HN.out
        exact ⟨_, List.getElem?_eq_getElem (by omega)⟩
      obtain ⟨ao', cap', e0, _, _, h3⟩ := HL.out.upd hu
      injection e0 with e0 _ e2
      subst e0 e2
      obtain ⟨q, rfl, c0, c1⟩ := h3 k x hx
      clear h3
      have hd : l.drop k = x :: l.drop (k + 1) := by
        obtain ⟨h5, h6⟩ := List.getElem?_eq_some_iff.1 hx
        rw [List.drop_eq_getElem_cons h5, h6]
      rw [hd, findTg] at hf
      have HF := Lib.hid hf
      have HU := Lib.hid hu
      clear hf hd hu hx
      by_cases t1 : x.k = kind
      · by_cases t2 : p.2 = 0
        · have t1' : (x.k == kind) = true := by simpa using t1
          have T1 := Lib.hid t1
          clear t1
          go_wp2
          go_roundg (n - (k + 1))
          case rel => exact ⟨k + 1, by omega, by go_num, (x.s, p.2 + 1), rfl, by go_num, by simp only; omega, by rw [← HF.out, if_neg (by simp [T1.out]), if_pos t2], HU.out⟩
          case measure => omega
        · have t1' : (x.k == kind) = true := by simpa using t1
          have T1 := Lib.hid t1
          clear t1
          go_wp2
          go_roundg (n - (k + 1))
          case rel => exact ⟨k + 1, by omega, by go_num, (p.1, p.2 + 1), rfl, by go_num, by simp only; omega, by rw [← HF.out, if_neg (by simp [T1.out]), if_neg t2], HU.out⟩
          case measure => omega
      · go_wp2
        go_roundg (n - (k + 1))
        case rel => exact ⟨k + 1, by omega, by go_num, p, rfl, rfl, by omega, by rw [← HF.out, if_pos t1], HU.out⟩
        case measure => omega
    · obtain rfl : k = n := by omega
      have hd : l.drop k = [] := by rw [HN.out]; simp
      rw [hd] at hf
      have HF := Lib.hid hf
      clear hf hd
      go_wp2
      go_ret2
      rw [← HF.out]
      exact ⟨rfl, hu⟩
set_option maxHeartbeats 1000000 in
theorem rsame_any (l m : List Tg) (v u : Value) (w : World) (hl : TgsAt w v l) (hm : TgsAt w u m) :
    Calls Tryz.prog 19 #[v, u] w fun e w' => e = .returned (.bool (decide (l = m))) ∧ Upd [] w w' := by
  obtain ⟨ao, cap, rfl, h1, h2, h3⟩ := id hl
  obtain ⟨bo, cbp, rfl, g1, g2, g3⟩ := id hm
  obtain ⟨n, hn⟩ : ∃ n, n = l.length := ⟨_, rfl⟩
  obtain ⟨j, hj⟩ : ∃ n, n = m.length := ⟨_, rfl⟩
  rw [← hn] at h1
  rw [← hj] at g1
  rw [← hn, ← hj]
  have HL := Lib.hid hl
  have HM := Lib.hid hm
  have HN := Lib.hid hn
  have HJ := Lib.hid hj
  simp only [maxLen] at h2 g2
  clear h3 g3 hl hn hm hj
  by_cases tn : n = j
  rotate_left
  · have hne : Hid (decide (l = m) = false) := by
      show _ = _
      rw [decide_eq_false_iff_not]
      rintro rfl
      exact tn (HN.out.trans HJ.out.symm)
    rw [hne.out]
    go_enter Tryz.func19, Tryz.ntmps19
    go_wp2
    go_ret
    exact ⟨rfl, Upd.refl _ _⟩
  subst tn
  go_enter Tryz.func19, Tryz.ntmps19
  go_wp2
  go_loopg [5] n (fun x s5 wr => ∃ k : Nat, k + x = n ∧ s5 = .int .i64 k ∧ l.take k = m.take k ∧ Upd [] w wr)
  case atStart => exact ⟨0, by omega, rfl, rfl, Upd.refl _ _⟩
  case round =>
    obtain ⟨k, hk, rfl, hp, hu⟩ := hrel
    by_cases t : k < n
    · obtain ⟨x, hx⟩ : ∃ x, l[k]? = some x := by
        have := HN.out
        exact ⟨_, List.getElem?_eq_getElem (by omega)⟩
      obtain ⟨y, hy⟩ : ∃ x, m[k]? = some x := by
        have := HJ.out
        exact ⟨_, List.getElem?_eq_getElem (by omega)⟩
      obtain ⟨ao', cap', e0, _, _, h3⟩ := HL.out.upd hu
      injection e0 with e0 _ e2
      subst e0 e2
      obtain ⟨q, rfl, c0, c1⟩ := h3 k x hx
      clear h3
      obtain ⟨ao', cap', e0, _, _, h3⟩ := HM.out.upd hu
      injection e0 with e0 _ e2
      subst e0 e2
      obtain ⟨q', rfl, d0, d1⟩ := h3 k y hy
      clear h3
      have HX := Lib.hid (And.intro hx (And.intro hy (And.intro hp hu)))
      clear hx hy hp hu
      go_wp2
      by_cases hk : x.k = y.k ∧ x.s.toList = y.s.toList
      · obtain ⟨hk1, hk2⟩ := hk
        go_region
        go_wp2
        go_roundg (n - (k + 1))
        case rel =>
          refine ⟨k + 1, by omega, by go_num, ?_, HX.out.2.2.2.drew⟩
          rw [List.take_add_one, List.take_add_one, HX.out.2.2.1, HX.out.1, HX.out.2.1]
          have : x = y := by
            cases x; cases y
            simp only [str_inj] at hk1 hk2
            rw [hk1, hk2]
          rw [this]
        case measure => omega
      · have he : Hid (decide (l = m) = false) := by
          show _ = _
          rw [decide_eq_false_iff_not]
          rintro rfl
          have := HX.out.1.symm.trans HX.out.2.1
          injection this with this
          subst this
          exact hk ⟨rfl, rfl⟩
        by_cases hk1 : x.k = y.k
        · have hk2 : ¬ x.s.toList = y.s.toList := fun h => hk ⟨hk1, h⟩
          clear hk
          go_region
          go_wp2
          go_ret
          rw [he.out]
          exact ⟨rfl, HX.out.2.2.2.drew⟩
        · clear hk
          go_region
          go_wp2
          go_ret
          rw [he.out]
          exact ⟨rfl, HX.out.2.2.2.drew⟩
    · obtain rfl : k = n := by omega
      have he : Hid (decide (l = m) = true) := by
        show _ = _
        rw [decide_eq_true_iff]
        have h7 := hp
        rw [List.take_of_length_le (by rw [← HN.out]; exact Nat.le_refl _), List.take_of_length_le (by rw [← HJ.out]; exact Nat.le_refl _)] at h7
        exact h7
      clear hp
      go_wp2
      go_ret
      rw [he.out]
      exact ⟨rfl, hu⟩
end Go.Proofs.YtomnnnjahpoggaaGreat
