/- The walks of msg.Raw, of msg.Put at nothing. The walks of msg.Put at nothing, of alive. -/
import Derived.Test.YtglafpdealjlnaaGreatQMsgA
import Derived.Test.YtglafpdealjlnaaGreatQLib
import Derived.Test.YtglafpdealjlnaaGreatQAvpP
namespace Go.Proofs.YtglafpdealjlnaaGreat
open Go.RowKit
set_option maxRecDepth 100000
set_option linter.unusedSimpArgs false
set_option linter.unusedVariables false

theorem wordsOf_nil (s : ByteArray) : wordsOf [] s = s := rfl
theorem wordsOf_size : ∀ (l : List Int) (s : ByteArray), (wordsOf l s).size = s.size + 2 * l.length
  | [], s => by simp [wordsOf]
  | n :: l, s => by rw [wordsOf, wordsOf_size, ByteArray.size_append, be_size, List.length_cons]; omega
def rawOf (t s ns nr : Int) (b : ByteArray) : ByteArray := strOfNums [200, 2] ++ wordsOf [(b.size : Int) + 12, t, s, ns, nr] ⟨#[]⟩ ++ b
set_option maxHeartbeats 2000000 in
theorem raw_any (t s ns nr : Int) (v : Value) (b : ByteArray) (h : (0 ≤ t ∧ t < 65536) ∧ (0 ≤ s ∧ s < 65536) ∧ (0 ≤ ns ∧ ns < 65536) ∧ (0 ≤ nr ∧ nr < 65536) ∧ b.size ≤ 65523) (hv : v.oneCell' = true) (w : World) :
    Calls Tryz.prog 82 #[.agg #[.int .i64 t, .int .i64 s, .int .i64 ns, .int .i64 nr, v], .string b] w fun e w' => e = .returned (.string (rawOf t s ns nr b)) ∧ Upd [] w w' := by
  obtain ⟨A, hA⟩ : ∃ A, A = Obj.cells #[.int .i64 t, .int .i64 s, .int .i64 ns, .int .i64 nr, v] 24 := ⟨_, rfl⟩
  have A0 : Blk (w.alloc A) w.heap.size 24 #[.int .i64 t, .int .i64 s, .int .i64 ns, .int .i64 nr, v] := by rw [hA]; exact Blk.new _ _ _
  have U0 : Upd [] w (w.alloc A) := (Upd.refl [] w).alloc A
  have HH := Lib.hid h
  obtain ⟨ws, hws⟩ : ∃ ws, ws = wordsOf [(b.size : Int) + 12, t, s, ns, nr] ⟨#[]⟩ := ⟨_, rfl⟩
  have hwz : ws.size = 10 := by rw [hws, wordsOf_size]; rfl
  have HW : Hid (∀ (u : Value) (W : World), IntsAt W u [(b.size : Int) + 12, t, s, ns, nr] → Calls Tryz.prog 99 #[u] W fun e w' => e = .returned (.string ws) ∧ Upd [] W w') := by
    intro u W hu
    rw [hws]
    refine msgPut_any _ u W hu ?_ (by simp)
    intro n hn
    have := HH.out
    simp only [List.mem_cons, List.not_mem_nil, or_false] at hn
    rcases hn with rfl | rfl | rfl | rfl | rfl <;> omega
  have HR : Hid (rawOf t s ns nr b = strOfNums [200, 2] ++ ws ++ b) := by rw [hws]; exact rfl
  have hbz : b.size ≤ 65523 := h.2.2.2.2
  clear h hws
  rw [HR.out]
  go_enter Tryz.func82, Tryz.ntmps82
  go_wp2_with fail
  rw [← hA]
  clear hA HR HH
  generalize w.alloc A = w1 at *
  have hcells : ∀ W, Upd [] w1 W → W.cell? ⟨w.heap.size, 0, none⟩ = some (.int .i64 t) ∧ W.cell? ⟨w.heap.size, 1, none⟩ = some (.int .i64 s) ∧ W.cell? ⟨w.heap.size, 2, none⟩ = some (.int .i64 ns) ∧ W.cell? ⟨w.heap.size, 3, none⟩ = some (.int .i64 nr) := fun W hu =>
    ⟨(A0.upd hu (by simp)).cell 0, (A0.upd hu (by simp)).cell 1, (A0.upd hu (by simp)).cell 2, (A0.upd hu (by simp)).cell 3⟩
  refine wp_region_facts (.pure) (trivial) [.made (0) (by simp [Env.pure]) 2 5 #[.int .u8 200, .int .u8 2], .is (.string (strOfNums [200, 2])), .is (.string b), .is (.int .i64 b.size), .is (.int .i64 ((b.size : Int) + 12)), .is (.pointer (some ⟨w.heap.size, 0, none⟩)), .is (.int .i64 t), .is (.pointer (some ⟨w.heap.size, 1, none⟩)), .is (.int .i64 s), .is (.pointer (some ⟨w.heap.size, 2, none⟩)), .is (.int .i64 ns), .is (.pointer (some ⟨w.heap.size, 3, none⟩)), .is (.int .i64 nr), .made (0) (by simp [Env.pure]) 5 3 #[.int .i64 ((b.size : Int) + 12), .int .i64 t, .int .i64 s, .int .i64 ns, .int .i64 nr], .is (.string ws), .is (.string (strOfNums [200, 2] ++ ws)), .is (.string b), .is (.string (strOfNums [200, 2] ++ ws ++ b)), .is (.string (strOfNums [200, 2] ++ ws ++ b))] (by kernel_rfl) (by kernel_rfl) (by kernel_rfl) (by kernel_rfl) ?_ ?_
  · refine Steps.cons ?_ (Steps.cons ?_ (Steps.cons ?_ (Steps.cons ?_ (Steps.cons ?_ (Steps.cons ?_ (Steps.cons ?_ (Steps.cons ?_ (Steps.cons ?_ (Steps.cons ?_ (Steps.cons ?_ (Steps.cons ?_ (Steps.cons ?_ (Steps.cons ?_ (Steps.cons ?_ (Steps.cons ?_ (Steps.cons ?_ (Steps.cons ?_ (Steps.cons ?_ Steps.nil))))))))))))))))))
    · refine step_run rfl (fun _ _ => trivial) ?_
      intro a W hi hF hD
      have hu := hi.upd
      clear hF hD
      have hc := hcells W hu
      exact ⟨_, _, by (go_simp; first | done | rfl | exact ⟨rfl, rfl⟩), (Upd.refl _ _).alloc _, _, Nat.zero_le _, rfl, Blk.new _ _ _⟩
    · refine step_is _ rfl ⟨_, rfl⟩ rfl (fun _ _ => trivial) ?_
      intro a W hi hF hD
      have hu := hi.upd
      obtain ⟨g5, _, e5, b5⟩ : ∃ g, 0 ≤ g ∧ a.eval (.tmp 5) = .slice (some ⟨g, 0, none⟩) 2 2 ∧ Blk W g 5 #[.int .u8 200, .int .u8 2] := (hD _ (Array.mem_of_getElem? (i := 0) rfl) rfl).1
      rw [ev] at e5
      clear hF hD
      have hc := hcells W hu
      have hcv := str2 Tryz.underlying151 Tryz.underlying5 Tryz.underlying9 b5
      go_simp
    · refine step_is _ rfl ⟨_, rfl⟩ rfl (fun _ _ => trivial) ?_
      intro a W hi hF hD
      have hu := hi.upd
      have e1 : a.tmps[1]?.getD undef = _ := (ev a 1).symm.trans (hF 1 (by kernel_rfl))
      clear hF hD
      have hc := hcells W hu
      go_simp
    · refine step_is _ rfl ⟨_, rfl⟩ rfl (fun _ _ => trivial) ?_
      intro a W hi hF hD
      have hu := hi.upd
      have e7 : a.tmps[7]?.getD undef = .string b := (ev a 7).symm.trans (hD _ (Array.mem_of_getElem? (i := 0) rfl) rfl).1
      clear hF hD
      have hc := hcells W hu
      go_simp
    · refine step_is _ rfl ⟨_, rfl⟩ rfl (fun _ _ => trivial) ?_
      intro a W hi hF hD
      have hu := hi.upd
      have e8 : a.tmps[8]?.getD undef = .int .i64 b.size := (ev a 8).symm.trans (hD _ (Array.mem_of_getElem? (i := 0) rfl) rfl).1
      clear hF hD
      have hc := hcells W hu
      go_simp
      exact IntWalk.i64_in ((b.size : Int) + 12) (by omega)
    · refine step_is _ rfl ⟨_, rfl⟩ rfl (fun _ _ => trivial) ?_
      intro a W hi hF hD
      have hu := hi.upd
      have e2 : a.tmps[2]?.getD undef = _ := (ev a 2).symm.trans (hF 2 (by kernel_rfl))
      clear hF hD
      have hc := hcells W hu
      go_simp
    · refine step_is _ rfl ⟨_, rfl⟩ rfl (fun _ _ => trivial) ?_
      intro a W hi hF hD
      have hu := hi.upd
      have e10 : a.tmps[10]?.getD undef = .pointer (some ⟨w.heap.size, 0, none⟩) := (ev a 10).symm.trans (hD _ (Array.mem_of_getElem? (i := 0) rfl) rfl).1
      clear hF hD
      have hc := hcells W hu
      go_simp
    · refine step_is _ rfl ⟨_, rfl⟩ rfl (fun _ _ => trivial) ?_
      intro a W hi hF hD
      have hu := hi.upd
      have e2 : a.tmps[2]?.getD undef = _ := (ev a 2).symm.trans (hF 2 (by kernel_rfl))
      clear hF hD
      have hc := hcells W hu
      go_simp
    · refine step_is _ rfl ⟨_, rfl⟩ rfl (fun _ _ => trivial) ?_
      intro a W hi hF hD
      have hu := hi.upd
      have e12 : a.tmps[12]?.getD undef = .pointer (some ⟨w.heap.size, 1, none⟩) := (ev a 12).symm.trans (hD _ (Array.mem_of_getElem? (i := 0) rfl) rfl).1
      clear hF hD
      have hc := hcells W hu
      go_simp
    · refine step_is _ rfl ⟨_, rfl⟩ rfl (fun _ _ => trivial) ?_
      intro a W hi hF hD
      have hu := hi.upd
      have e2 : a.tmps[2]?.getD undef = _ := (ev a 2).symm.trans (hF 2 (by kernel_rfl))
      clear hF hD
      have hc := hcells W hu
      go_simp
    · refine step_is _ rfl ⟨_, rfl⟩ rfl (fun _ _ => trivial) ?_
      intro a W hi hF hD
      have hu := hi.upd
      have e14 : a.tmps[14]?.getD undef = .pointer (some ⟨w.heap.size, 2, none⟩) := (ev a 14).symm.trans (hD _ (Array.mem_of_getElem? (i := 0) rfl) rfl).1
      clear hF hD
      have hc := hcells W hu
      go_simp
    · refine step_is _ rfl ⟨_, rfl⟩ rfl (fun _ _ => trivial) ?_
      intro a W hi hF hD
      have hu := hi.upd
      have e2 : a.tmps[2]?.getD undef = _ := (ev a 2).symm.trans (hF 2 (by kernel_rfl))
      clear hF hD
      have hc := hcells W hu
      go_simp
    · refine step_is _ rfl ⟨_, rfl⟩ rfl (fun _ _ => trivial) ?_
      intro a W hi hF hD
      have hu := hi.upd
      have e16 : a.tmps[16]?.getD undef = .pointer (some ⟨w.heap.size, 3, none⟩) := (ev a 16).symm.trans (hD _ (Array.mem_of_getElem? (i := 0) rfl) rfl).1
      clear hF hD
      have hc := hcells W hu
      go_simp
    · refine step_run rfl (fun _ _ => trivial) ?_
      intro a W hi hF hD
      have hu := hi.upd
      have e9 : a.tmps[9]?.getD undef = .int .i64 ((b.size : Int) + 12) := (ev a 9).symm.trans (hD _ (Array.mem_of_getElem? (i := 0) rfl) rfl).1
      have e11 : a.tmps[11]?.getD undef = .int .i64 t := (ev a 11).symm.trans (hD _ (Array.mem_of_getElem? (i := 1) rfl) rfl).1
      have e13 : a.tmps[13]?.getD undef = .int .i64 s := (ev a 13).symm.trans (hD _ (Array.mem_of_getElem? (i := 2) rfl) rfl).1
      have e15 : a.tmps[15]?.getD undef = .int .i64 ns := (ev a 15).symm.trans (hD _ (Array.mem_of_getElem? (i := 3) rfl) rfl).1
      have e17 : a.tmps[17]?.getD undef = .int .i64 nr := (ev a 17).symm.trans (hD _ (Array.mem_of_getElem? (i := 4) rfl) rfl).1
      clear hF hD
      have hc := hcells W hu
      exact ⟨_, _, by (go_simp; first | done | rfl | exact ⟨rfl, rfl⟩), (Upd.refl _ _).alloc _, _, Nat.zero_le _, rfl, Blk.new _ _ _⟩
    · refine step_call rfl (fun _ _ => trivial) ?_
      intro a W hi hF hD
      have hu := hi.upd
      obtain ⟨g18, _, e18, b18⟩ : ∃ g, 0 ≤ g ∧ a.eval (.tmp 18) = .slice (some ⟨g, 0, none⟩) 5 5 ∧ Blk W g 3 #[.int .i64 ((b.size : Int) + 12), .int .i64 t, .int .i64 s, .int .i64 ns, .int .i64 nr] := (hD _ (Array.mem_of_getElem? (i := 0) rfl) rfl).1
      rw [ev] at e18
      clear hF hD
      have hc := hcells W hu
      refine ⟨_, _, by (go_simp; first | done | rfl | exact ⟨rfl, rfl⟩), ?_⟩
      refine (HW.out _ _ (IntsAt.of_blk (l := [(b.size : Int) + 12, t, s, ns, nr]) b18 (by simp [maxLen]))).mono ?_
      rintro e w2 ⟨rfl, hu2⟩
      first | exact ⟨_, rfl, hu2, rfl⟩ | (cases hu2; exact ⟨_, rfl, Upd.refl _ _, rfl⟩)
    · refine step_is _ rfl ⟨_, rfl⟩ rfl (fun _ _ => trivial) ?_
      intro a W hi hF hD
      have hu := hi.upd
      have e6 : a.tmps[6]?.getD undef = .string (strOfNums [200, 2]) := (ev a 6).symm.trans (hD _ (Array.mem_of_getElem? (i := 0) rfl) rfl).1
      have e19 : a.tmps[19]?.getD undef = .string ws := (ev a 19).symm.trans (hD _ (Array.mem_of_getElem? (i := 1) rfl) rfl).1
      clear hF hD
      have hc := hcells W hu
      have := run_string_add_sum (P := Tryz.prog) W (strOfNums [200, 2]) ws (by rw [strOfNums_size, hwz]; decide)
      go_simp
    · refine step_is _ rfl ⟨_, rfl⟩ rfl (fun _ _ => trivial) ?_
      intro a W hi hF hD
      have hu := hi.upd
      have e1 : a.tmps[1]?.getD undef = _ := (ev a 1).symm.trans (hF 1 (by kernel_rfl))
      clear hF hD
      have hc := hcells W hu
      go_simp
    · refine step_is _ rfl ⟨_, rfl⟩ rfl (fun _ _ => trivial) ?_
      intro a W hi hF hD
      have hu := hi.upd
      have e20 : a.tmps[20]?.getD undef = .string (strOfNums [200, 2] ++ ws) := (ev a 20).symm.trans (hD _ (Array.mem_of_getElem? (i := 0) rfl) rfl).1
      have e21 : a.tmps[21]?.getD undef = .string b := (ev a 21).symm.trans (hD _ (Array.mem_of_getElem? (i := 1) rfl) rfl).1
      clear hF hD
      have hc := hcells W hu
      have := run_string_add_sum (P := Tryz.prog) W (strOfNums [200, 2] ++ ws) b (by rw [ByteArray.size_append, strOfNums_size, hwz]; simp; omega)
      go_simp
    · refine step_is _ rfl ⟨_, rfl⟩ rfl (fun _ _ => trivial) ?_
      intro a W hi hF hD
      have hu := hi.upd
      have e22 : a.tmps[22]?.getD undef = .string (strOfNums [200, 2] ++ ws ++ b) := (ev a 22).symm.trans (hD _ (Array.mem_of_getElem? (i := 0) rfl) rfl).1
      clear hF hD
      have hc := hcells W hu
      go_simp
  intro vals W hu hv
  obtain ⟨g0, _, v0, b0⟩ : ∃ g, 0 ≤ g ∧ vals 0 = .slice (some ⟨g, 0, none⟩) 2 2 ∧ Blk W g 5 #[.int .u8 200, .int .u8 2] := (hv 0 (by decide)).1
  have v1 : vals 1 = .string (strOfNums [200, 2]) := (hv 1 (by decide)).1
  have v2 : vals 2 = .string b := (hv 2 (by decide)).1
  have v3 : vals 3 = .int .i64 b.size := (hv 3 (by decide)).1
  have v4 : vals 4 = .int .i64 ((b.size : Int) + 12) := (hv 4 (by decide)).1
  have v5 : vals 5 = .pointer (some ⟨w.heap.size, 0, none⟩) := (hv 5 (by decide)).1
  have v6 : vals 6 = .int .i64 t := (hv 6 (by decide)).1
  have v7 : vals 7 = .pointer (some ⟨w.heap.size, 1, none⟩) := (hv 7 (by decide)).1
  have v8 : vals 8 = .int .i64 s := (hv 8 (by decide)).1
  have v9 : vals 9 = .pointer (some ⟨w.heap.size, 2, none⟩) := (hv 9 (by decide)).1
  have v10 : vals 10 = .int .i64 ns := (hv 10 (by decide)).1
  have v11 : vals 11 = .pointer (some ⟨w.heap.size, 3, none⟩) := (hv 11 (by decide)).1
  have v12 : vals 12 = .int .i64 nr := (hv 12 (by decide)).1
  obtain ⟨g13, _, v13, b13⟩ : ∃ g, 0 ≤ g ∧ vals 13 = .slice (some ⟨g, 0, none⟩) 5 5 ∧ Blk W g 3 #[.int .i64 ((b.size : Int) + 12), .int .i64 t, .int .i64 s, .int .i64 ns, .int .i64 nr] := (hv 13 (by decide)).1
  have v14 : vals 14 = .string ws := (hv 14 (by decide)).1
  have v15 : vals 15 = .string (strOfNums [200, 2] ++ ws) := (hv 15 (by decide)).1
  have v16 : vals 16 = .string b := (hv 16 (by decide)).1
  have v17 : vals 17 = .string (strOfNums [200, 2] ++ ws ++ b) := (hv 17 (by decide)).1
  have v18 : vals 18 = .string (strOfNums [200, 2] ++ ws ++ b) := (hv 18 (by decide)).1
  clear hv
  simp only [putAll, Act.put, Nat.zero_add, Nat.reduceAdd, v0, v1, v2, v3, v4, v5, v6, v7, v8, v9, v10, v11, v12, v13, v14, v15, v16, v17, v18, List.setIfInBounds_toArray, List.set_cons_zero, List.set_cons_succ]
  clear v0 v1 v2 v3 v4 v5 v6 v7 v8 v9 v10 v11 v12 v13 v14 v15 v16 v17 v18
  go_wp2_with fail
  go_ret
  exact ⟨rfl, U0.trans hu⟩
end Go.Proofs.YtglafpdealjlnaaGreat
namespace Go.Proofs.YtglafpdealjlnaaGreat
open Go.RowKit
set_option maxRecDepth 100000
set_option linter.unusedSimpArgs false
set_option linter.unusedVariables false

theorem raw0 : rawOf 0 0 0 0 ⟨#[]⟩ = head0 := by decide +kernel
set_option maxHeartbeats 1000000 in
theorem msgPut0 (hd : ByteArray) (hhd : hd = head0) (w : World) :
    Calls Tryz.prog 9 #[.agg #[.int .i64 0, .int .i64 0, .int .i64 0, .int .i64 0, .slice none 0 0], .string ⟨#[]⟩] w fun e w' => e = .returned (.tuple #[.string hd, .int .i64 0]) ∧ Upd [] w w' := by
  have HHD : Hid (rawOf 0 0 0 0 ⟨#[]⟩ = hd) := by show _ = _; rw [hhd, raw0]
  clear hhd
  have hw : ([0, 0, 0, 0] : List Int).any overWord = false := by decide
  have U0 := Lib.hid ((Upd.refl [] w).alloc (.cells #[.int .i64 0, .int .i64 0, .int .i64 0, .int .i64 0, .slice none 0 0] 24))
  have HC : Hid (∀ W, Upd [] (w.alloc (.cells #[.int .i64 0, .int .i64 0, .int .i64 0, .int .i64 0, .slice none 0 0] 24)) W → W.cell? ⟨w.heap.size, 0, none⟩ = some (.int .i64 0) ∧ W.cell? ⟨w.heap.size, 1, none⟩ = some (.int .i64 0) ∧ W.cell? ⟨w.heap.size, 2, none⟩ = some (.int .i64 0) ∧ W.cell? ⟨w.heap.size, 3, none⟩ = some (.int .i64 0) ∧ W.cell? ⟨w.heap.size, 4, none⟩ = some (.slice none 0 0)) := by
    intro W hu
    have h := (Blk.new w 24 #[.int .i64 0, .int .i64 0, .int .i64 0, .int .i64 0, .slice none 0 0]).upd hu (by simp)
    exact ⟨h.cell 0, h.cell 1, h.cell 2, h.cell 3, h.cell 4⟩
  have HI : Hid (∀ W : World, IntsAt (W.alloc (.cells #[.int .i64 0, .int .i64 0, .int .i64 0, .int .i64 0] 3)) (.slice (some ⟨W.heap.size, 0, none⟩) 4 4) [0, 0, 0, 0]) := fun W => IntsAt.of_blk (l := [0, 0, 0, 0]) (Blk.new _ _ _) (by simp [maxLen])
  have HW := Lib.hid hw
  clear hw
  go_enter Tryz.func9, Tryz.ntmps9
  go_wp2_with fail
  refine (words_any [0, 0, 0, 0] _ _ (by have h := HI.out (w.alloc (.cells #[.int .i64 0, .int .i64 0, .int .i64 0, .int .i64 0, .slice none 0 0] 24)); simpa using h)).mono ?_
  rintro e w1 ⟨rfl, hu1⟩
  have HU1 : Hid (Upd [] (w.alloc (.cells #[.int .i64 0, .int .i64 0, .int .i64 0, .int .i64 0, .slice none 0 0] 24)) w1) := ((Upd.refl _ _).alloc _).trans hu1
  clear hu1
  rw [HW.out]
  obtain ⟨c0, c1, c2, c3, c4⟩ := HC.out _ HU1.out
  simp only [Bool.not_false]
  go_wp2_with fail
  refine (avpPut0 0 none ⟨#[]⟩ _).mono ?_
  rintro e w2 ⟨rfl, hu2⟩
  have HU2 := Lib.hid (HU1.out.trans hu2)
  clear hu2 c0 c1 c2 c3 c4
  obtain ⟨c0, c1, c2, c3, c4⟩ := HC.out _ HU2.out
  go_wp2_with fail
  refine (raw_any 0 0 0 0 (.slice none 0 0) ⟨#[]⟩ (by decide) rfl _).mono ?_
  rintro e w3 ⟨rfl, hu3⟩
  rw [HHD.out]
  have HU3 := Lib.hid (HU2.out.trans hu3)
  clear hu3
  go_wp2_with fail
  go_ret2
  exact ⟨rfl, U0.out.trans HU3.out⟩

theorem make_avs {w : World} {u : Value} {own : List Nat} {a : Av} {l : List Av} (h : Own w 85 5 u (1 + l.length) (avCells (a :: l)) own) : AvsAt w u (a :: l) :=
  AvsAt.of_own (e := 85) (own := own) (by rw [List.length_cons, Nat.add_comm]; exact h)
set_option maxHeartbeats 1000000 in
theorem alive_any (w : World) :
    Calls Tryz.prog 7 #[] w fun e w' => e = .returned (.bool true) ∧ Upd [] w w' := by
  have k1 : checkOf [numAv 0 11 2] = 40 := by decide +kernel
  have k2 : checkOf [numAv 0 11 2, numAv 14 5 2] = 0 := by decide +kernel
  have k3 : checkOf [numAv 0 5 2] = 40 := by decide +kernel
  have z1 : ∀ a ∈ [numAv 0 11 2], a.val.size ≤ maxLen := by simp [numAv, be_size, maxLen]
  have z2 : ∀ a ∈ [numAv 0 11 2, numAv 14 5 2], a.val.size ≤ maxLen := by simp [numAv, be_size, maxLen]
  have z3 : ∀ a ∈ [numAv 0 5 2], a.val.size ≤ maxLen := by simp [numAv, be_size, maxLen]
  have K := Lib.hid (And.intro k1 (And.intro k2 k3))
  have Z := Lib.hid (And.intro z1 (And.intro z2 z3))
  clear k1 k2 k3 z1 z2 z3
  have hnum := fun W => num_ok 14 5 2 (by omega) W
  simp only [Av.agg, numAv] at hnum
  obtain ⟨x, hx⟩ : ∃ x, be 2 5 = x := ⟨_, rfl⟩
  rw [hx] at hnum
  have HNUM := Lib.hid hnum
  have HX : Hid (numAv 14 5 2 = ⟨true, false, 0, 14, x⟩) := by show _ = _; rw [numAv, hx]
  clear hx hnum
  have HI : Hid (∀ W : World, AvsAt (W.alloc (.cells #[.bool true, .bool false, .int .i64 0, .int .i64 14, .string x] 85)) (.slice (some ⟨W.heap.size, 0, none⟩) 1 1) [numAv 14 5 2]) := by
    intro W
    rw [HX.out]
    exact AvsAt.of_blk (l := [⟨true, false, 0, 14, x⟩]) (Blk.new _ _ _) (by simp [maxLen])
  obtain ⟨hd, hhd⟩ : ∃ h, h = head0 := ⟨_, rfl⟩
  have hput := msgPut0 hd hhd
  have HP := Lib.hid hput
  have HHD := Lib.hid hhd
  clear hput hhd
  go_enter Tryz.func7, Tryz.ntmps7
  go_wp2_with fail
  refine (HP.out _).mono ?_
  rintro e w1 ⟨rfl, hu1⟩
  have HU1 := Lib.hid hu1
  clear hu1
  go_wp2_with fail
  refine (make_any 11 [] _ _ (AvsAt.nil _) (by simp)).mono ?_
  rintro e w2 ⟨u1, own1, rfl, ho1, -, hu2⟩
  have HU2 := Lib.hid (HU1.out.trans hu2)
  have HO1 := Lib.hid ho1
  obtain ⟨ao1, cap1, rfl, -, -⟩ := ho1.shape
  clear hu2 ho1
  go_wp2_with fail
  refine (check_any 0 0 0 0 _ _ _ (make_avs HO1.out) Z.out.1).mono ?_
  rintro e w3 ⟨rfl, hu3⟩
  have HU3 := Lib.hid (HU2.out.trans hu3)
  clear hu3
  rw [K.out.1]
  go_wp2_with fail
  refine (HNUM.out _).mono ?_
  rintro e w4 ⟨rfl, hu4⟩
  have HU4 := Lib.hid (HU3.out.trans hu4)
  clear hu4
  go_wp2_with fail
  refine (make_any 11 [numAv 14 5 2] _ _ (HI.out _) (by simp)).mono ?_
  rintro e w5 ⟨u2, own2, rfl, ho2, -, hu5⟩
  have HU5 := Lib.hid ((HU4.out.alloc _).trans hu5)
  have HO2 := Lib.hid ho2
  obtain ⟨ao2, cap2, rfl, -, -⟩ := ho2.shape
  clear hu5 ho2
  go_wp2_with fail
  refine (check_any 0 0 0 0 _ _ _ (make_avs HO2.out) Z.out.2.1).mono ?_
  rintro e w6 ⟨rfl, hu6⟩
  have HU6 := Lib.hid (HU5.out.trans hu6)
  clear hu6
  rw [K.out.2.1]
  have hq : hd.toList = [200, 2, 0, 12, 0, 0, 0, 0, 0, 0, 0, 0] := by rw [HHD.out]; decide +kernel
  go_wp2_with fail
  refine (by rw [HHD.out]; exact isCtl_head0 _ : Calls Tryz.prog 32 #[.string hd] _ fun e w' => e = .returned (.bool true) ∧ _ = w').mono ?_
  rintro e w7 ⟨rfl, rfl⟩
  clear hq
  go_wp2_with fail
  refine (make_any 5 [] _ _ (AvsAt.nil _) (by simp)).mono ?_
  rintro e w8 ⟨u3, own3, rfl, ho3, -, hu8⟩
  have HU8 := Lib.hid (HU6.out.trans hu8)
  have HO3 := Lib.hid ho3
  obtain ⟨ao3, cap3, rfl, -, -⟩ := ho3.shape
  clear hu8 ho3
  go_wp2_with fail
  refine (check_any 0 0 0 0 _ _ _ (make_avs HO3.out) Z.out.2.2).mono ?_
  rintro e w9 ⟨rfl, hu9⟩
  have HU9 := Lib.hid (HU8.out.trans hu9)
  clear hu9
  rw [K.out.2.2]
  go_wp2_with fail
  go_ret
  exact ⟨rfl, HU9.out⟩
end Go.Proofs.YtglafpdealjlnaaGreat
