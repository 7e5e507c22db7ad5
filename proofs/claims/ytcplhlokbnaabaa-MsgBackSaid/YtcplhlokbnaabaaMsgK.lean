/- The walk of msg.PutLoad. -/
import Derived.Test.YtcplhlokbnaabaaMsgI
import Derived.Test.YtcplhlokbnaabaaStrs
import Derived.Test.YtcplhlokbnaabaaFacts
namespace Go.Proofs.Ytcplhlokbnaabaa
open Go.RowKit
set_option linter.unusedSimpArgs false
set_option linter.unusedVariables false
set_option maxRecDepth 20000

def Ld.bad (l : Ld) : Bool := [l.tunnel, l.session, l.ns, l.nr].any (fun n => decide (n < 0) || decide (65535 < n)) || (!l.seq && (!decide (l.ns = 0) || !decide (l.nr = 0)))
def Ld.bytes (l : Ld) : ByteArray :=
  if l.seq = true then strOfNums [72, 2] ++ wordsOf [(l.data.size : Int) + 12, l.tunnel, l.session, l.ns, l.nr] ⟨#[]⟩ ++ l.data
  else strOfNums [64, 2] ++ wordsOf [(l.data.size : Int) + 8, l.tunnel, l.session] ⟨#[]⟩ ++ l.data
def Ld.put (l : Ld) : ByteArray × Int := if l.bad = true then (⟨#[]⟩, 1) else if 1460 < l.data.size then (⟨#[]⟩, 2) else (l.bytes, 0)
theorem wordsOfI_size (l : List Int) (s : ByteArray) : (wordsOf l s).size = s.size + 2 * l.length := by
  induction l generalizing s with
  | nil => rfl
  | cons n l ih => rw [wordsOf, ih, ByteArray.size_append, be_size, List.length_cons]; omega
set_option maxHeartbeats 600000 in
theorem putLoad_seq (t s ns nr : Int) (b : ByteArray) (h : (0 ≤ t ∧ t < 65536) ∧ (0 ≤ s ∧ s < 65536) ∧ (0 ≤ ns ∧ ns < 65536) ∧ (0 ≤ nr ∧ nr < 65536)) (hb : b.size ≤ maxLen) (w : World) :
    Calls Try.prog 20 #[(⟨t, s, true, ns, nr, b⟩ : Ld).agg] w fun e w' => e = .returned (.tuple #[.string (⟨t, s, true, ns, nr, b⟩ : Ld).put.1, .int .i64 (⟨t, s, true, ns, nr, b⟩ : Ld).put.2]) ∧ Upd [] w w' := by
  simp only [maxLen] at hb
  obtain ⟨A, hA⟩ : ∃ A, A = Obj.cells #[.int .i64 t, .int .i64 s, .bool true, .int .i64 ns, .int .i64 nr, .string b] 42 := ⟨_, rfl⟩
  have A0 : Blk (w.alloc A) w.heap.size 42 #[.int .i64 t, .int .i64 s, .bool true, .int .i64 ns, .int .i64 nr, .string b] := by rw [hA]; exact Blk.new _ _ _
  have U0 : Hid (Upd [] w (w.alloc A)) := (Upd.refl [] w).alloc A
  have HH := Lib.hid h
  have HBAD : Hid ((⟨t, s, true, ns, nr, b⟩ : Ld).bad = false) := by
    show _ = _
    have := HH.out
    simp only [Ld.bad]
    simp
    omega
  have HW0 : Hid (([t, s, ns, nr] : List Int).any overWord = false) := by
    show _ = _
    have := HH.out
    simp [overWord]
    omega
  have HI : Hid (∀ W : World, IntsAt (W.alloc (.cells #[.int .i64 t, .int .i64 s, .int .i64 ns, .int .i64 nr] 3)) (.slice (some ⟨W.heap.size, 0, none⟩) 4 4) [t, s, ns, nr]) := fun W => IntsAt.of_blk (l := [t, s, ns, nr]) (Blk.new _ _ _) (by simp [maxLen])
  have HC : Hid (∀ W, Upd [] (w.alloc A) W → W.cell? ⟨w.heap.size, 0, none⟩ = some (.int .i64 t) ∧ W.cell? ⟨w.heap.size, 1, none⟩ = some (.int .i64 s) ∧ W.cell? ⟨w.heap.size, 2, none⟩ = some (.bool true) ∧ W.cell? ⟨w.heap.size, 3, none⟩ = some (.int .i64 ns) ∧ W.cell? ⟨w.heap.size, 4, none⟩ = some (.int .i64 nr) ∧ W.cell? ⟨w.heap.size, 5, none⟩ = some (.string b)) := fun W hu =>
    ⟨(A0.upd hu (by simp)).cell 0, (A0.upd hu (by simp)).cell 1, (A0.upd hu (by simp)).cell 2, (A0.upd hu (by simp)).cell 3, (A0.upd hu (by simp)).cell 4, (A0.upd hu (by simp)).cell 5⟩
  have HA := Lib.hid hA
  clear hA A0 h
  by_cases t1 : 1460 < b.size
  · have t1' : (1460 : Int) < b.size := by omega
    have HQ : Hid ((⟨t, s, true, ns, nr, b⟩ : Ld).put = (⟨#[]⟩, 2)) := by show _ = _; rw [Ld.put, HBAD.out, if_neg (by simp), if_pos t1]
    rw [HQ.out]
    clear HQ HBAD
    have hc := HC.out _ (Upd.refl [] (w.alloc A))
    have hI := HI.out (w.alloc A)
    rw [show (w.alloc A).heap.size = w.heap.size + 1 by simp] at hI
    go_enter Try.func20, Try.ntmps20
    simp only [Ld.agg]
    go_wp2_with fail
    rw [← HA.out]
    clear HA
    generalize w.alloc A = wA at *
    go_wp2_with fail
    refine (words_any [t, s, ns, nr] _ _ hI).mono ?_
    rintro e w1 ⟨rfl, hu1⟩
    have HU1 : Hid (Upd [] wA w1) := ((Upd.refl _ _).alloc _).trans hu1
    clear hu1 hc
    rw [HW0.out]
    have hc := HC.out _ HU1.out
    simp only [Bool.not_false]
    go_wp2_with fail
    go_ret2
    exact ⟨rfl, U0.out.trans HU1.out⟩
  have t1' : ¬ (1460 : Int) < b.size := by omega
  obtain ⟨ws, hws⟩ : ∃ ws, ws = wordsOf [(b.size : Int) + 12, t, s, ns, nr] ⟨#[]⟩ := ⟨_, rfl⟩
  have hwz : ws.size = 10 := by rw [hws, wordsOfI_size]; rfl
  have HW : Hid (∀ (u : Value) (W : World), IntsAt W u [(b.size : Int) + 12, t, s, ns, nr] → Calls Try.prog 33 #[u] W fun e w' => e = .returned (.string ws) ∧ Upd [] W w') := by
    intro u W hu
    rw [hws]
    refine msgPut_any _ u W hu ?_ (by simp)
    intro n hn
    have := HH.out
    simp only [List.mem_cons, List.not_mem_nil, or_false] at hn
    rcases hn with rfl | rfl | rfl | rfl | rfl <;> omega
  have HQ : Hid ((⟨t, s, true, ns, nr, b⟩ : Ld).put = (strOfNums [72, 2] ++ ws ++ b, 0)) := by show _ = _; rw [Ld.put, HBAD.out, if_neg (by simp), if_neg t1, hws]; rfl
  rw [HQ.out]
  clear HQ HBAD hws
  have hc := HC.out _ (Upd.refl [] (w.alloc A))
  have hI := HI.out (w.alloc A)
  rw [show (w.alloc A).heap.size = w.heap.size + 1 by simp] at hI
  go_enter Try.func20, Try.ntmps20
  simp only [Ld.agg]
  go_wp2_with fail
  rw [← HA.out]
  clear HA
  generalize w.alloc A = wA at *
  go_wp2_with fail
  refine (words_any [t, s, ns, nr] _ _ hI).mono ?_
  rintro e w1 ⟨rfl, hu1⟩
  have HU1 : Hid (Upd [] wA w1) := ((Upd.refl _ _).alloc _).trans hu1
  clear hu1 hc
  rw [HW0.out]
  have hc := HC.out _ HU1.out
  simp only [Bool.not_false]
  go_wp2_with fail
  clear hc
  have hcells : ∀ W, Upd [] w1 W → _ := fun W hu => HC.out W (HU1.out.trans hu)
  refine wp_region_facts (.pure) (trivial) [.made (0) (by simp [Env.pure]) 2 5 #[.int .u8 72, .int .u8 2], .is (.string (strOfNums [72, 2])), .is (.pointer (some ⟨w.heap.size, 5, none⟩)), .is (.string b), .is (.int .i64 b.size), .is (.int .i64 ((b.size : Int) + 12)), .is (.pointer (some ⟨w.heap.size, 0, none⟩)), .is (.int .i64 t), .is (.pointer (some ⟨w.heap.size, 1, none⟩)), .is (.int .i64 s), .is (.pointer (some ⟨w.heap.size, 3, none⟩)), .is (.int .i64 ns), .is (.pointer (some ⟨w.heap.size, 4, none⟩)), .is (.int .i64 nr), .made (0) (by simp [Env.pure]) 5 3 #[.int .i64 ((b.size : Int) + 12), .int .i64 t, .int .i64 s, .int .i64 ns, .int .i64 nr], .is (.string ws), .is (.string (strOfNums [72, 2] ++ ws)), .is (.pointer (some ⟨w.heap.size, 5, none⟩)), .is (.string b), .is (.string (strOfNums [72, 2] ++ ws ++ b)), .is (.string (strOfNums [72, 2] ++ ws ++ b)), .is (.int .i64 0)] (by kernel_rfl) (by kernel_rfl) (by kernel_rfl) (by kernel_rfl) ?_ ?_
  · refine Steps.cons ?_ (Steps.cons ?_ (Steps.cons ?_ (Steps.cons ?_ (Steps.cons ?_ (Steps.cons ?_ (Steps.cons ?_ (Steps.cons ?_ (Steps.cons ?_ (Steps.cons ?_ (Steps.cons ?_ (Steps.cons ?_ (Steps.cons ?_ (Steps.cons ?_ (Steps.cons ?_ (Steps.cons ?_ (Steps.cons ?_ (Steps.cons ?_ (Steps.cons ?_ (Steps.cons ?_ (Steps.cons ?_ (Steps.cons ?_ Steps.nil)))))))))))))))))))))
    · refine step_run rfl (fun _ _ => trivial) ?_
      intro a W hi hF hD
      have hu := hi.upd
      clear hF hD
      have hc := hcells W hu
      exact ⟨_, _, by (go_simp; first | done | rfl | exact ⟨rfl, rfl⟩), (Upd.refl _ _).alloc _, _, Nat.zero_le _, rfl, Blk.new _ _ _⟩
    · refine step_is _ rfl ⟨_, rfl⟩ rfl (fun _ _ => trivial) ?_
      intro a W hi hF hD
      have hu := hi.upd
      obtain ⟨g56, _, e56, b56⟩ : ∃ g, 0 ≤ g ∧ a.eval (.tmp 56) = .slice (some ⟨g, 0, none⟩) 2 2 ∧ Blk W g 5 #[.int .u8 72, .int .u8 2] := (hD _ (Array.mem_of_getElem? (i := 0) rfl) rfl).1
      rw [ev] at e56
      clear hF hD
      have hc := hcells W hu
      have hcv := str2 Try.underlying69 Try.underlying5 Try.underlying9 b56
      go_simp
    · refine step_is _ rfl ⟨_, rfl⟩ rfl (fun _ _ => trivial) ?_
      intro a W hi hF hD
      have hu := hi.upd
      have e1 : a.tmps[1]?.getD undef = _ := (ev a 1).symm.trans (hF 1 (by kernel_rfl))
      clear hF hD
      have hc := hcells W hu
      go_simp
    · refine step_is _ rfl ⟨_, rfl⟩ rfl (fun _ _ => trivial) ?_
      intro a W hi hF hD
      have hu := hi.upd
      have e58 : a.tmps[58]?.getD undef = .pointer (some ⟨w.heap.size, 5, none⟩) := (ev a 58).symm.trans (hD _ (Array.mem_of_getElem? (i := 0) rfl) rfl).1
      clear hF hD
      have hc := hcells W hu
      go_simp
    · refine step_is _ rfl ⟨_, rfl⟩ rfl (fun _ _ => trivial) ?_
      intro a W hi hF hD
      have hu := hi.upd
      have e59 : a.tmps[59]?.getD undef = .string b := (ev a 59).symm.trans (hD _ (Array.mem_of_getElem? (i := 0) rfl) rfl).1
      clear hF hD
      have hc := hcells W hu
      go_simp
    · refine step_is _ rfl ⟨_, rfl⟩ rfl (fun _ _ => trivial) ?_
      intro a W hi hF hD
      have hu := hi.upd
      have e60 : a.tmps[60]?.getD undef = .int .i64 b.size := (ev a 60).symm.trans (hD _ (Array.mem_of_getElem? (i := 0) rfl) rfl).1
      clear hF hD
      have hc := hcells W hu
      go_simp
      exact IntWalk.i64_in ((b.size : Int) + 12) (by omega)
    · refine step_is _ rfl ⟨_, rfl⟩ rfl (fun _ _ => trivial) ?_
      intro a W hi hF hD
      have hu := hi.upd
      have e1 : a.tmps[1]?.getD undef = _ := (ev a 1).symm.trans (hF 1 (by kernel_rfl))
      clear hF hD
      have hc := hcells W hu
      go_simp
    · refine step_is _ rfl ⟨_, rfl⟩ rfl (fun _ _ => trivial) ?_
      intro a W hi hF hD
      have hu := hi.upd
      have e62 : a.tmps[62]?.getD undef = .pointer (some ⟨w.heap.size, 0, none⟩) := (ev a 62).symm.trans (hD _ (Array.mem_of_getElem? (i := 0) rfl) rfl).1
      clear hF hD
      have hc := hcells W hu
      go_simp
    · refine step_is _ rfl ⟨_, rfl⟩ rfl (fun _ _ => trivial) ?_
      intro a W hi hF hD
      have hu := hi.upd
      have e1 : a.tmps[1]?.getD undef = _ := (ev a 1).symm.trans (hF 1 (by kernel_rfl))
      clear hF hD
      have hc := hcells W hu
      go_simp
    · refine step_is _ rfl ⟨_, rfl⟩ rfl (fun _ _ => trivial) ?_
      intro a W hi hF hD
      have hu := hi.upd
      have e64 : a.tmps[64]?.getD undef = .pointer (some ⟨w.heap.size, 1, none⟩) := (ev a 64).symm.trans (hD _ (Array.mem_of_getElem? (i := 0) rfl) rfl).1
      clear hF hD
      have hc := hcells W hu
      go_simp
    · refine step_is _ rfl ⟨_, rfl⟩ rfl (fun _ _ => trivial) ?_
      intro a W hi hF hD
      have hu := hi.upd
      have e1 : a.tmps[1]?.getD undef = _ := (ev a 1).symm.trans (hF 1 (by kernel_rfl))
      clear hF hD
      have hc := hcells W hu
      go_simp
    · refine step_is _ rfl ⟨_, rfl⟩ rfl (fun _ _ => trivial) ?_
      intro a W hi hF hD
      have hu := hi.upd
      have e66 : a.tmps[66]?.getD undef = .pointer (some ⟨w.heap.size, 3, none⟩) := (ev a 66).symm.trans (hD _ (Array.mem_of_getElem? (i := 0) rfl) rfl).1
      clear hF hD
      have hc := hcells W hu
      go_simp
    · refine step_is _ rfl ⟨_, rfl⟩ rfl (fun _ _ => trivial) ?_
      intro a W hi hF hD
      have hu := hi.upd
      have e1 : a.tmps[1]?.getD undef = _ := (ev a 1).symm.trans (hF 1 (by kernel_rfl))
      clear hF hD
      have hc := hcells W hu
      go_simp
    · refine step_is _ rfl ⟨_, rfl⟩ rfl (fun _ _ => trivial) ?_
      intro a W hi hF hD
      have hu := hi.upd
      have e68 : a.tmps[68]?.getD undef = .pointer (some ⟨w.heap.size, 4, none⟩) := (ev a 68).symm.trans (hD _ (Array.mem_of_getElem? (i := 0) rfl) rfl).1
      clear hF hD
      have hc := hcells W hu
      go_simp
    · refine step_run rfl (fun _ _ => trivial) ?_
      intro a W hi hF hD
      have hu := hi.upd
      have e61 : a.tmps[61]?.getD undef = .int .i64 ((b.size : Int) + 12) := (ev a 61).symm.trans (hD _ (Array.mem_of_getElem? (i := 0) rfl) rfl).1
      have e63 : a.tmps[63]?.getD undef = .int .i64 t := (ev a 63).symm.trans (hD _ (Array.mem_of_getElem? (i := 1) rfl) rfl).1
      have e65 : a.tmps[65]?.getD undef = .int .i64 s := (ev a 65).symm.trans (hD _ (Array.mem_of_getElem? (i := 2) rfl) rfl).1
      have e67 : a.tmps[67]?.getD undef = .int .i64 ns := (ev a 67).symm.trans (hD _ (Array.mem_of_getElem? (i := 3) rfl) rfl).1
      have e69 : a.tmps[69]?.getD undef = .int .i64 nr := (ev a 69).symm.trans (hD _ (Array.mem_of_getElem? (i := 4) rfl) rfl).1
      clear hF hD
      have hc := hcells W hu
      exact ⟨_, _, by (go_simp; first | done | rfl | exact ⟨rfl, rfl⟩), (Upd.refl _ _).alloc _, _, Nat.zero_le _, rfl, Blk.new _ _ _⟩
    · refine step_call rfl (fun _ _ => trivial) ?_
      intro a W hi hF hD
      have hu := hi.upd
      obtain ⟨g70, _, e70, b70⟩ : ∃ g, 0 ≤ g ∧ a.eval (.tmp 70) = .slice (some ⟨g, 0, none⟩) 5 5 ∧ Blk W g 3 #[.int .i64 ((b.size : Int) + 12), .int .i64 t, .int .i64 s, .int .i64 ns, .int .i64 nr] := (hD _ (Array.mem_of_getElem? (i := 0) rfl) rfl).1
      rw [ev] at e70
      clear hF hD
      have hc := hcells W hu
      refine ⟨_, _, by (go_simp; first | done | rfl | exact ⟨rfl, rfl⟩), ?_⟩
      refine (HW.out _ _ (IntsAt.of_blk (l := [(b.size : Int) + 12, t, s, ns, nr]) b70 (by simp [maxLen]))).mono ?_
      rintro e w2 ⟨rfl, hu2⟩
      first | exact ⟨_, rfl, hu2, rfl⟩ | (cases hu2; exact ⟨_, rfl, Upd.refl _ _, rfl⟩)
    · refine step_is _ rfl ⟨_, rfl⟩ rfl (fun _ _ => trivial) ?_
      intro a W hi hF hD
      have hu := hi.upd
      have e57 : a.tmps[57]?.getD undef = .string (strOfNums [72, 2]) := (ev a 57).symm.trans (hD _ (Array.mem_of_getElem? (i := 0) rfl) rfl).1
      have e71 : a.tmps[71]?.getD undef = .string ws := (ev a 71).symm.trans (hD _ (Array.mem_of_getElem? (i := 1) rfl) rfl).1
      clear hF hD
      have hc := hcells W hu
      have := run_string_add_sum (P := Try.prog) W (strOfNums [72, 2]) ws (by rw [strOfNums_size, hwz]; decide)
      go_simp
    · refine step_is _ rfl ⟨_, rfl⟩ rfl (fun _ _ => trivial) ?_
      intro a W hi hF hD
      have hu := hi.upd
      have e1 : a.tmps[1]?.getD undef = _ := (ev a 1).symm.trans (hF 1 (by kernel_rfl))
      clear hF hD
      have hc := hcells W hu
      go_simp
    · refine step_is _ rfl ⟨_, rfl⟩ rfl (fun _ _ => trivial) ?_
      intro a W hi hF hD
      have hu := hi.upd
      have e73 : a.tmps[73]?.getD undef = .pointer (some ⟨w.heap.size, 5, none⟩) := (ev a 73).symm.trans (hD _ (Array.mem_of_getElem? (i := 0) rfl) rfl).1
      clear hF hD
      have hc := hcells W hu
      go_simp
    · refine step_is _ rfl ⟨_, rfl⟩ rfl (fun _ _ => trivial) ?_
      intro a W hi hF hD
      have hu := hi.upd
      have e72 : a.tmps[72]?.getD undef = .string (strOfNums [72, 2] ++ ws) := (ev a 72).symm.trans (hD _ (Array.mem_of_getElem? (i := 0) rfl) rfl).1
      have e74 : a.tmps[74]?.getD undef = .string b := (ev a 74).symm.trans (hD _ (Array.mem_of_getElem? (i := 1) rfl) rfl).1
      clear hF hD
      have hc := hcells W hu
      have := run_string_add_sum (P := Try.prog) W (strOfNums [72, 2] ++ ws) b (by rw [ByteArray.size_append, strOfNums_size, hwz]; simp; omega)
      go_simp
    · refine step_is _ rfl ⟨_, rfl⟩ rfl (fun _ _ => trivial) ?_
      intro a W hi hF hD
      have hu := hi.upd
      have e75 : a.tmps[75]?.getD undef = .string (strOfNums [72, 2] ++ ws ++ b) := (ev a 75).symm.trans (hD _ (Array.mem_of_getElem? (i := 0) rfl) rfl).1
      clear hF hD
      have hc := hcells W hu
      go_simp
    · refine step_is _ rfl ⟨_, rfl⟩ rfl (fun _ _ => trivial) ?_
      intro a W hi hF hD
      have hu := hi.upd
      clear hF hD
      have hc := hcells W hu
      go_simp
  intro vals W hu hv
  obtain ⟨g0, _, v0, b0⟩ : ∃ g, 0 ≤ g ∧ vals 0 = .slice (some ⟨g, 0, none⟩) 2 2 ∧ Blk W g 5 #[.int .u8 72, .int .u8 2] := (hv 0 (by decide)).1
  have v1 : vals 1 = .string (strOfNums [72, 2]) := (hv 1 (by decide)).1
  have v2 : vals 2 = .pointer (some ⟨w.heap.size, 5, none⟩) := (hv 2 (by decide)).1
  have v3 : vals 3 = .string b := (hv 3 (by decide)).1
  have v4 : vals 4 = .int .i64 b.size := (hv 4 (by decide)).1
  have v5 : vals 5 = .int .i64 ((b.size : Int) + 12) := (hv 5 (by decide)).1
  have v6 : vals 6 = .pointer (some ⟨w.heap.size, 0, none⟩) := (hv 6 (by decide)).1
  have v7 : vals 7 = .int .i64 t := (hv 7 (by decide)).1
  have v8 : vals 8 = .pointer (some ⟨w.heap.size, 1, none⟩) := (hv 8 (by decide)).1
  have v9 : vals 9 = .int .i64 s := (hv 9 (by decide)).1
  have v10 : vals 10 = .pointer (some ⟨w.heap.size, 3, none⟩) := (hv 10 (by decide)).1
  have v11 : vals 11 = .int .i64 ns := (hv 11 (by decide)).1
  have v12 : vals 12 = .pointer (some ⟨w.heap.size, 4, none⟩) := (hv 12 (by decide)).1
  have v13 : vals 13 = .int .i64 nr := (hv 13 (by decide)).1
  obtain ⟨g14, _, v14, b14⟩ : ∃ g, 0 ≤ g ∧ vals 14 = .slice (some ⟨g, 0, none⟩) 5 5 ∧ Blk W g 3 #[.int .i64 ((b.size : Int) + 12), .int .i64 t, .int .i64 s, .int .i64 ns, .int .i64 nr] := (hv 14 (by decide)).1
  have v15 : vals 15 = .string ws := (hv 15 (by decide)).1
  have v16 : vals 16 = .string (strOfNums [72, 2] ++ ws) := (hv 16 (by decide)).1
  have v17 : vals 17 = .pointer (some ⟨w.heap.size, 5, none⟩) := (hv 17 (by decide)).1
  have v18 : vals 18 = .string b := (hv 18 (by decide)).1
  have v19 : vals 19 = .string (strOfNums [72, 2] ++ ws ++ b) := (hv 19 (by decide)).1
  have v20 : vals 20 = .string (strOfNums [72, 2] ++ ws ++ b) := (hv 20 (by decide)).1
  have v21 : vals 21 = .int .i64 0 := (hv 21 (by decide)).1
  clear hv
  simp only [putAll, Act.put, Nat.zero_add, Nat.reduceAdd, v0, v1, v2, v3, v4, v5, v6, v7, v8, v9, v10, v11, v12, v13, v14, v15, v16, v17, v18, v19, v20, v21, List.setIfInBounds_toArray, List.set_cons_zero, List.set_cons_succ]
  clear v0 v1 v2 v3 v4 v5 v6 v7 v8 v9 v10 v11 v12 v13 v14 v15 v16 v17 v18 v19 v20 v21
  go_wp2_with fail
  go_ret2
  exact ⟨rfl, U0.out.trans (HU1.out.trans hu)⟩
set_option maxHeartbeats 600000 in
theorem putLoad_plain (t s : Int) (b : ByteArray) (h : (0 ≤ t ∧ t < 65536) ∧ (0 ≤ s ∧ s < 65536)) (hb : b.size ≤ maxLen) (w : World) :
    Calls Try.prog 20 #[(⟨t, s, false, 0, 0, b⟩ : Ld).agg] w fun e w' => e = .returned (.tuple #[.string (⟨t, s, false, 0, 0, b⟩ : Ld).put.1, .int .i64 (⟨t, s, false, 0, 0, b⟩ : Ld).put.2]) ∧ Upd [] w w' := by
  simp only [maxLen] at hb
  obtain ⟨A, hA⟩ : ∃ A, A = Obj.cells #[.int .i64 t, .int .i64 s, .bool false, .int .i64 0, .int .i64 0, .string b] 42 := ⟨_, rfl⟩
  have A0 : Blk (w.alloc A) w.heap.size 42 #[.int .i64 t, .int .i64 s, .bool false, .int .i64 0, .int .i64 0, .string b] := by rw [hA]; exact Blk.new _ _ _
  have U0 : Hid (Upd [] w (w.alloc A)) := (Upd.refl [] w).alloc A
  have HH := Lib.hid h
  have HBAD : Hid ((⟨t, s, false, 0, 0, b⟩ : Ld).bad = false) := by
    show _ = _
    have := HH.out
    simp only [Ld.bad]
    simp
    omega
  have HW0 : Hid (([t, s, 0, 0] : List Int).any overWord = false) := by
    show _ = _
    have := HH.out
    simp [overWord]
    omega
  have HI : Hid (∀ W : World, IntsAt (W.alloc (.cells #[.int .i64 t, .int .i64 s, .int .i64 0, .int .i64 0] 3)) (.slice (some ⟨W.heap.size, 0, none⟩) 4 4) [t, s, 0, 0]) := fun W => IntsAt.of_blk (l := [t, s, 0, 0]) (Blk.new _ _ _) (by simp [maxLen])
  have HC : Hid (∀ W, Upd [] (w.alloc A) W → W.cell? ⟨w.heap.size, 0, none⟩ = some (.int .i64 t) ∧ W.cell? ⟨w.heap.size, 1, none⟩ = some (.int .i64 s) ∧ W.cell? ⟨w.heap.size, 2, none⟩ = some (.bool false) ∧ W.cell? ⟨w.heap.size, 3, none⟩ = some (.int .i64 0) ∧ W.cell? ⟨w.heap.size, 4, none⟩ = some (.int .i64 0) ∧ W.cell? ⟨w.heap.size, 5, none⟩ = some (.string b)) := fun W hu =>
    ⟨(A0.upd hu (by simp)).cell 0, (A0.upd hu (by simp)).cell 1, (A0.upd hu (by simp)).cell 2, (A0.upd hu (by simp)).cell 3, (A0.upd hu (by simp)).cell 4, (A0.upd hu (by simp)).cell 5⟩
  have HA := Lib.hid hA
  clear hA A0 h
  by_cases t1 : 1460 < b.size
  · have t1' : (1460 : Int) < b.size := by omega
    have HQ : Hid ((⟨t, s, false, 0, 0, b⟩ : Ld).put = (⟨#[]⟩, 2)) := by show _ = _; rw [Ld.put, HBAD.out, if_neg (by simp), if_pos t1]
    rw [HQ.out]
    clear HQ HBAD
    have hc := HC.out _ (Upd.refl [] (w.alloc A))
    have hI := HI.out (w.alloc A)
    rw [show (w.alloc A).heap.size = w.heap.size + 1 by simp] at hI
    go_enter Try.func20, Try.ntmps20
    simp only [Ld.agg]
    go_wp2_with fail
    rw [← HA.out]
    clear HA
    generalize w.alloc A = wA at *
    go_wp2_with fail
    refine (words_any [t, s, 0, 0] _ _ hI).mono ?_
    rintro e w1 ⟨rfl, hu1⟩
    have HU1 : Hid (Upd [] wA w1) := ((Upd.refl _ _).alloc _).trans hu1
    clear hu1 hc
    rw [HW0.out]
    have hc := HC.out _ HU1.out
    simp only [Bool.not_false]
    go_wp2_with fail
    go_ret2
    exact ⟨rfl, U0.out.trans HU1.out⟩
  have t1' : ¬ (1460 : Int) < b.size := by omega
  obtain ⟨ws, hws⟩ : ∃ ws, ws = wordsOf [(b.size : Int) + 8, t, s] ⟨#[]⟩ := ⟨_, rfl⟩
  have hwz : ws.size = 6 := by rw [hws, wordsOfI_size]; rfl
  have HW : Hid (∀ (u : Value) (W : World), IntsAt W u [(b.size : Int) + 8, t, s] → Calls Try.prog 33 #[u] W fun e w' => e = .returned (.string ws) ∧ Upd [] W w') := by
    intro u W hu
    rw [hws]
    refine msgPut_any _ u W hu ?_ (by simp)
    intro n hn
    have := HH.out
    simp only [List.mem_cons, List.not_mem_nil, or_false] at hn
    rcases hn with rfl | rfl | rfl <;> omega
  have HQ : Hid ((⟨t, s, false, 0, 0, b⟩ : Ld).put = (strOfNums [64, 2] ++ ws ++ b, 0)) := by show _ = _; rw [Ld.put, HBAD.out, if_neg (by simp), if_neg t1, hws]; rfl
  rw [HQ.out]
  clear HQ HBAD hws
  have hc := HC.out _ (Upd.refl [] (w.alloc A))
  have hI := HI.out (w.alloc A)
  rw [show (w.alloc A).heap.size = w.heap.size + 1 by simp] at hI
  go_enter Try.func20, Try.ntmps20
  simp only [Ld.agg]
  go_wp2_with fail
  rw [← HA.out]
  clear HA
  generalize w.alloc A = wA at *
  go_wp2_with fail
  refine (words_any [t, s, 0, 0] _ _ hI).mono ?_
  rintro e w1 ⟨rfl, hu1⟩
  have HU1 : Hid (Upd [] wA w1) := ((Upd.refl _ _).alloc _).trans hu1
  clear hu1 hc
  rw [HW0.out]
  have hc := HC.out _ HU1.out
  simp only [Bool.not_false]
  go_wp2_with fail
  clear hc
  have hcells : ∀ W, Upd [] w1 W → _ := fun W hu => HC.out W (HU1.out.trans hu)
  refine wp_region_facts (.pure) (trivial) [.made (0) (by simp [Env.pure]) 2 5 #[.int .u8 64, .int .u8 2], .is (.string (strOfNums [64, 2])), .is (.pointer (some ⟨w.heap.size, 5, none⟩)), .is (.string b), .is (.int .i64 b.size), .is (.int .i64 ((b.size : Int) + 8)), .is (.pointer (some ⟨w.heap.size, 0, none⟩)), .is (.int .i64 t), .is (.pointer (some ⟨w.heap.size, 1, none⟩)), .is (.int .i64 s), .made (0) (by simp [Env.pure]) 3 3 #[.int .i64 ((b.size : Int) + 8), .int .i64 t, .int .i64 s], .is (.string ws), .is (.string (strOfNums [64, 2] ++ ws)), .is (.pointer (some ⟨w.heap.size, 5, none⟩)), .is (.string b), .is (.string (strOfNums [64, 2] ++ ws ++ b)), .is (.string (strOfNums [64, 2] ++ ws ++ b)), .is (.int .i64 0)] (by kernel_rfl) (by kernel_rfl) (by kernel_rfl) (by kernel_rfl) ?_ ?_
  · refine Steps.cons ?_ (Steps.cons ?_ (Steps.cons ?_ (Steps.cons ?_ (Steps.cons ?_ (Steps.cons ?_ (Steps.cons ?_ (Steps.cons ?_ (Steps.cons ?_ (Steps.cons ?_ (Steps.cons ?_ (Steps.cons ?_ (Steps.cons ?_ (Steps.cons ?_ (Steps.cons ?_ (Steps.cons ?_ (Steps.cons ?_ (Steps.cons ?_ Steps.nil)))))))))))))))))
    · refine step_run rfl (fun _ _ => trivial) ?_
      intro a W hi hF hD
      have hu := hi.upd
      clear hF hD
      have hc := hcells W hu
      exact ⟨_, _, by (go_simp; first | done | rfl | exact ⟨rfl, rfl⟩), (Upd.refl _ _).alloc _, _, Nat.zero_le _, rfl, Blk.new _ _ _⟩
    · refine step_is _ rfl ⟨_, rfl⟩ rfl (fun _ _ => trivial) ?_
      intro a W hi hF hD
      have hu := hi.upd
      obtain ⟨g40, _, e40, b40⟩ : ∃ g, 0 ≤ g ∧ a.eval (.tmp 40) = .slice (some ⟨g, 0, none⟩) 2 2 ∧ Blk W g 5 #[.int .u8 64, .int .u8 2] := (hD _ (Array.mem_of_getElem? (i := 0) rfl) rfl).1
      rw [ev] at e40
      clear hF hD
      have hc := hcells W hu
      have hcv := str2 Try.underlying69 Try.underlying5 Try.underlying9 b40
      go_simp
    · refine step_is _ rfl ⟨_, rfl⟩ rfl (fun _ _ => trivial) ?_
      intro a W hi hF hD
      have hu := hi.upd
      have e1 : a.tmps[1]?.getD undef = _ := (ev a 1).symm.trans (hF 1 (by kernel_rfl))
      clear hF hD
      have hc := hcells W hu
      go_simp
    · refine step_is _ rfl ⟨_, rfl⟩ rfl (fun _ _ => trivial) ?_
      intro a W hi hF hD
      have hu := hi.upd
      have e42 : a.tmps[42]?.getD undef = .pointer (some ⟨w.heap.size, 5, none⟩) := (ev a 42).symm.trans (hD _ (Array.mem_of_getElem? (i := 0) rfl) rfl).1
      clear hF hD
      have hc := hcells W hu
      go_simp
    · refine step_is _ rfl ⟨_, rfl⟩ rfl (fun _ _ => trivial) ?_
      intro a W hi hF hD
      have hu := hi.upd
      have e43 : a.tmps[43]?.getD undef = .string b := (ev a 43).symm.trans (hD _ (Array.mem_of_getElem? (i := 0) rfl) rfl).1
      clear hF hD
      have hc := hcells W hu
      go_simp
    · refine step_is _ rfl ⟨_, rfl⟩ rfl (fun _ _ => trivial) ?_
      intro a W hi hF hD
      have hu := hi.upd
      have e44 : a.tmps[44]?.getD undef = .int .i64 b.size := (ev a 44).symm.trans (hD _ (Array.mem_of_getElem? (i := 0) rfl) rfl).1
      clear hF hD
      have hc := hcells W hu
      go_simp
      exact IntWalk.i64_in ((b.size : Int) + 8) (by omega)
    · refine step_is _ rfl ⟨_, rfl⟩ rfl (fun _ _ => trivial) ?_
      intro a W hi hF hD
      have hu := hi.upd
      have e1 : a.tmps[1]?.getD undef = _ := (ev a 1).symm.trans (hF 1 (by kernel_rfl))
      clear hF hD
      have hc := hcells W hu
      go_simp
    · refine step_is _ rfl ⟨_, rfl⟩ rfl (fun _ _ => trivial) ?_
      intro a W hi hF hD
      have hu := hi.upd
      have e46 : a.tmps[46]?.getD undef = .pointer (some ⟨w.heap.size, 0, none⟩) := (ev a 46).symm.trans (hD _ (Array.mem_of_getElem? (i := 0) rfl) rfl).1
      clear hF hD
      have hc := hcells W hu
      go_simp
    · refine step_is _ rfl ⟨_, rfl⟩ rfl (fun _ _ => trivial) ?_
      intro a W hi hF hD
      have hu := hi.upd
      have e1 : a.tmps[1]?.getD undef = _ := (ev a 1).symm.trans (hF 1 (by kernel_rfl))
      clear hF hD
      have hc := hcells W hu
      go_simp
    · refine step_is _ rfl ⟨_, rfl⟩ rfl (fun _ _ => trivial) ?_
      intro a W hi hF hD
      have hu := hi.upd
      have e48 : a.tmps[48]?.getD undef = .pointer (some ⟨w.heap.size, 1, none⟩) := (ev a 48).symm.trans (hD _ (Array.mem_of_getElem? (i := 0) rfl) rfl).1
      clear hF hD
      have hc := hcells W hu
      go_simp
    · refine step_run rfl (fun _ _ => trivial) ?_
      intro a W hi hF hD
      have hu := hi.upd
      have e45 : a.tmps[45]?.getD undef = .int .i64 ((b.size : Int) + 8) := (ev a 45).symm.trans (hD _ (Array.mem_of_getElem? (i := 0) rfl) rfl).1
      have e47 : a.tmps[47]?.getD undef = .int .i64 t := (ev a 47).symm.trans (hD _ (Array.mem_of_getElem? (i := 1) rfl) rfl).1
      have e49 : a.tmps[49]?.getD undef = .int .i64 s := (ev a 49).symm.trans (hD _ (Array.mem_of_getElem? (i := 2) rfl) rfl).1
      clear hF hD
      have hc := hcells W hu
      exact ⟨_, _, by (go_simp; first | done | rfl | exact ⟨rfl, rfl⟩), (Upd.refl _ _).alloc _, _, Nat.zero_le _, rfl, Blk.new _ _ _⟩
    · refine step_call rfl (fun _ _ => trivial) ?_
      intro a W hi hF hD
      have hu := hi.upd
      obtain ⟨g50, _, e50, b50⟩ : ∃ g, 0 ≤ g ∧ a.eval (.tmp 50) = .slice (some ⟨g, 0, none⟩) 3 3 ∧ Blk W g 3 #[.int .i64 ((b.size : Int) + 8), .int .i64 t, .int .i64 s] := (hD _ (Array.mem_of_getElem? (i := 0) rfl) rfl).1
      rw [ev] at e50
      clear hF hD
      have hc := hcells W hu
      refine ⟨_, _, by (go_simp; first | done | rfl | exact ⟨rfl, rfl⟩), ?_⟩
      refine (HW.out _ _ (IntsAt.of_blk (l := [(b.size : Int) + 8, t, s]) b50 (by simp [maxLen]))).mono ?_
      rintro e w2 ⟨rfl, hu2⟩
      first | exact ⟨_, rfl, hu2, rfl⟩ | (cases hu2; exact ⟨_, rfl, Upd.refl _ _, rfl⟩)
    · refine step_is _ rfl ⟨_, rfl⟩ rfl (fun _ _ => trivial) ?_
      intro a W hi hF hD
      have hu := hi.upd
      have e41 : a.tmps[41]?.getD undef = .string (strOfNums [64, 2]) := (ev a 41).symm.trans (hD _ (Array.mem_of_getElem? (i := 0) rfl) rfl).1
      have e51 : a.tmps[51]?.getD undef = .string ws := (ev a 51).symm.trans (hD _ (Array.mem_of_getElem? (i := 1) rfl) rfl).1
      clear hF hD
      have hc := hcells W hu
      have := run_string_add_sum (P := Try.prog) W (strOfNums [64, 2]) ws (by rw [strOfNums_size, hwz]; decide)
      go_simp
    · refine step_is _ rfl ⟨_, rfl⟩ rfl (fun _ _ => trivial) ?_
      intro a W hi hF hD
      have hu := hi.upd
      have e1 : a.tmps[1]?.getD undef = _ := (ev a 1).symm.trans (hF 1 (by kernel_rfl))
      clear hF hD
      have hc := hcells W hu
      go_simp
    · refine step_is _ rfl ⟨_, rfl⟩ rfl (fun _ _ => trivial) ?_
      intro a W hi hF hD
      have hu := hi.upd
      have e53 : a.tmps[53]?.getD undef = .pointer (some ⟨w.heap.size, 5, none⟩) := (ev a 53).symm.trans (hD _ (Array.mem_of_getElem? (i := 0) rfl) rfl).1
      clear hF hD
      have hc := hcells W hu
      go_simp
    · refine step_is _ rfl ⟨_, rfl⟩ rfl (fun _ _ => trivial) ?_
      intro a W hi hF hD
      have hu := hi.upd
      have e52 : a.tmps[52]?.getD undef = .string (strOfNums [64, 2] ++ ws) := (ev a 52).symm.trans (hD _ (Array.mem_of_getElem? (i := 0) rfl) rfl).1
      have e54 : a.tmps[54]?.getD undef = .string b := (ev a 54).symm.trans (hD _ (Array.mem_of_getElem? (i := 1) rfl) rfl).1
      clear hF hD
      have hc := hcells W hu
      have := run_string_add_sum (P := Try.prog) W (strOfNums [64, 2] ++ ws) b (by rw [ByteArray.size_append, strOfNums_size, hwz]; simp; omega)
      go_simp
    · refine step_is _ rfl ⟨_, rfl⟩ rfl (fun _ _ => trivial) ?_
      intro a W hi hF hD
      have hu := hi.upd
      have e55 : a.tmps[55]?.getD undef = .string (strOfNums [64, 2] ++ ws ++ b) := (ev a 55).symm.trans (hD _ (Array.mem_of_getElem? (i := 0) rfl) rfl).1
      clear hF hD
      have hc := hcells W hu
      go_simp
    · refine step_is _ rfl ⟨_, rfl⟩ rfl (fun _ _ => trivial) ?_
      intro a W hi hF hD
      have hu := hi.upd
      clear hF hD
      have hc := hcells W hu
      go_simp
  intro vals W hu hv
  obtain ⟨g0, _, v0, b0⟩ : ∃ g, 0 ≤ g ∧ vals 0 = .slice (some ⟨g, 0, none⟩) 2 2 ∧ Blk W g 5 #[.int .u8 64, .int .u8 2] := (hv 0 (by decide)).1
  have v1 : vals 1 = .string (strOfNums [64, 2]) := (hv 1 (by decide)).1
  have v2 : vals 2 = .pointer (some ⟨w.heap.size, 5, none⟩) := (hv 2 (by decide)).1
  have v3 : vals 3 = .string b := (hv 3 (by decide)).1
  have v4 : vals 4 = .int .i64 b.size := (hv 4 (by decide)).1
  have v5 : vals 5 = .int .i64 ((b.size : Int) + 8) := (hv 5 (by decide)).1
  have v6 : vals 6 = .pointer (some ⟨w.heap.size, 0, none⟩) := (hv 6 (by decide)).1
  have v7 : vals 7 = .int .i64 t := (hv 7 (by decide)).1
  have v8 : vals 8 = .pointer (some ⟨w.heap.size, 1, none⟩) := (hv 8 (by decide)).1
  have v9 : vals 9 = .int .i64 s := (hv 9 (by decide)).1
  obtain ⟨g10, _, v10, b10⟩ : ∃ g, 0 ≤ g ∧ vals 10 = .slice (some ⟨g, 0, none⟩) 3 3 ∧ Blk W g 3 #[.int .i64 ((b.size : Int) + 8), .int .i64 t, .int .i64 s] := (hv 10 (by decide)).1
  have v11 : vals 11 = .string ws := (hv 11 (by decide)).1
  have v12 : vals 12 = .string (strOfNums [64, 2] ++ ws) := (hv 12 (by decide)).1
  have v13 : vals 13 = .pointer (some ⟨w.heap.size, 5, none⟩) := (hv 13 (by decide)).1
  have v14 : vals 14 = .string b := (hv 14 (by decide)).1
  have v15 : vals 15 = .string (strOfNums [64, 2] ++ ws ++ b) := (hv 15 (by decide)).1
  have v16 : vals 16 = .string (strOfNums [64, 2] ++ ws ++ b) := (hv 16 (by decide)).1
  have v17 : vals 17 = .int .i64 0 := (hv 17 (by decide)).1
  clear hv
  simp only [putAll, Act.put, Nat.zero_add, Nat.reduceAdd, v0, v1, v2, v3, v4, v5, v6, v7, v8, v9, v10, v11, v12, v13, v14, v15, v16, v17, List.setIfInBounds_toArray, List.set_cons_zero, List.set_cons_succ]
  clear v0 v1 v2 v3 v4 v5 v6 v7 v8 v9 v10 v11 v12 v13 v14 v15 v16 v17
  go_wp2_with fail
  go_ret2
  exact ⟨rfl, U0.out.trans (HU1.out.trans hu)⟩

set_option maxHeartbeats 2000000 in
theorem putLoad_bad (t s : Int) (q : Bool) (ns nr : Int) (b : ByteArray) (h : (⟨t, s, q, ns, nr, b⟩ : Ld).bad = true) (w : World) :
    Calls Try.prog 20 #[(⟨t, s, q, ns, nr, b⟩ : Ld).agg] w fun e w' => e = .returned (.tuple #[.string ⟨#[]⟩, .int .i64 1]) ∧ Upd [] w w' := by
  obtain ⟨A, hA⟩ : ∃ A, A = Obj.cells #[.int .i64 t, .int .i64 s, .bool q, .int .i64 ns, .int .i64 nr, .string b] 42 := ⟨_, rfl⟩
  have A0 : Blk (w.alloc A) w.heap.size 42 #[.int .i64 t, .int .i64 s, .bool q, .int .i64 ns, .int .i64 nr, .string b] := by rw [hA]; exact Blk.new _ _ _
  have U0 : Hid (Upd [] w (w.alloc A)) := (Upd.refl [] w).alloc A
  have HI : Hid (∀ W : World, IntsAt (W.alloc (.cells #[.int .i64 t, .int .i64 s, .int .i64 ns, .int .i64 nr] 3)) (.slice (some ⟨W.heap.size, 0, none⟩) 4 4) [t, s, ns, nr]) := fun W => IntsAt.of_blk (l := [t, s, ns, nr]) (Blk.new _ _ _) (by simp [maxLen])
  have HC : Hid (∀ W, Upd [] (w.alloc A) W → W.cell? ⟨w.heap.size, 0, none⟩ = some (.int .i64 t) ∧ W.cell? ⟨w.heap.size, 1, none⟩ = some (.int .i64 s) ∧ W.cell? ⟨w.heap.size, 2, none⟩ = some (.bool q) ∧ W.cell? ⟨w.heap.size, 3, none⟩ = some (.int .i64 ns) ∧ W.cell? ⟨w.heap.size, 4, none⟩ = some (.int .i64 nr) ∧ W.cell? ⟨w.heap.size, 5, none⟩ = some (.string b)) := fun W hu =>
    ⟨(A0.upd hu (by simp)).cell 0, (A0.upd hu (by simp)).cell 1, (A0.upd hu (by simp)).cell 2, (A0.upd hu (by simp)).cell 3, (A0.upd hu (by simp)).cell 4, (A0.upd hu (by simp)).cell 5⟩
  have HA := Lib.hid hA
  clear hA A0
  have hc := HC.out _ (Upd.refl [] (w.alloc A))
  have hI := HI.out (w.alloc A)
  rw [show (w.alloc A).heap.size = w.heap.size + 1 by simp] at hI
  have hov : (fun n : Int => decide (n < 0) || decide (65535 < n)) = overWord := rfl
  simp only [Ld.bad, hov] at h
  cases hw0 : ([t, s, ns, nr] : List Int).any overWord
  rotate_left
  · have HW0 := Lib.hid hw0
    clear h hov hw0
    go_enter Try.func20, Try.ntmps20
    simp only [Ld.agg]
    go_wp2_with fail
    rw [← HA.out]
    clear HA
    generalize w.alloc A = wA at *
    go_wp2_with fail
    refine (words_any [t, s, ns, nr] _ _ hI).mono ?_
    rintro e w1 ⟨rfl, hu1⟩
    have HU1 : Hid (Upd [] wA w1) := ((Upd.refl _ _).alloc _).trans hu1
    clear hu1 hc
    rw [HW0.out]
    have hc := HC.out _ HU1.out
    go_wp2_with fail
    go_ret2
    exact ⟨rfl, U0.out.trans HU1.out⟩
  rw [hw0, Bool.false_or] at h
  have HW0 := Lib.hid hw0
  clear hw0 hov
  cases q
  rotate_left
  · simp at h
  by_cases t1 : ns = 0
  · have t2 : nr ≠ 0 := by simpa [t1] using h
    have t2' : (nr != 0) = true := by simpa using t2
    have t1' : (ns != 0) = false := by simp [t1]
    clear h t1 t2
    go_enter Try.func20, Try.ntmps20
    simp only [Ld.agg]
    go_wp2_with fail
    rw [← HA.out]
    clear HA
    generalize w.alloc A = wA at *
    go_wp2_with fail
    refine (words_any [t, s, ns, nr] _ _ hI).mono ?_
    rintro e w1 ⟨rfl, hu1⟩
    have HU1 : Hid (Upd [] wA w1) := ((Upd.refl _ _).alloc _).trans hu1
    clear hu1 hc
    rw [HW0.out]
    have hc := HC.out _ HU1.out
    go_wp2_with fail
    go_ret2
    exact ⟨rfl, U0.out.trans HU1.out⟩
  · have t1' : (ns != 0) = true := by simpa using t1
    clear h t1
    go_enter Try.func20, Try.ntmps20
    simp only [Ld.agg]
    go_wp2_with fail
    rw [← HA.out]
    clear HA
    generalize w.alloc A = wA at *
    go_wp2_with fail
    refine (words_any [t, s, ns, nr] _ _ hI).mono ?_
    rintro e w1 ⟨rfl, hu1⟩
    have HU1 : Hid (Upd [] wA w1) := ((Upd.refl _ _).alloc _).trans hu1
    clear hu1 hc
    rw [HW0.out]
    have hc := HC.out _ HU1.out
    go_wp2_with fail
    go_ret2
    exact ⟨rfl, U0.out.trans HU1.out⟩
theorem putLoad_any (l : Ld) (hb : l.data.size ≤ maxLen) (w : World) :
    Calls Try.prog 20 #[l.agg] w fun e w' => e = .returned (.tuple #[.string l.put.1, .int .i64 l.put.2]) ∧ Upd [] w w' := by
  obtain ⟨t, s, q, ns, nr, b⟩ := l
  cases hbad : (⟨t, s, q, ns, nr, b⟩ : Ld).bad
  · have h : ([t, s, ns, nr].any (fun n => decide (n < 0) || decide (65535 < n)) || (!q && (!decide (ns = 0) || !decide (nr = 0)))) = false := hbad
    rw [Bool.or_eq_false_iff] at h
    obtain ⟨h1, h2⟩ := h
    have hr : (0 ≤ t ∧ t < 65536) ∧ (0 ≤ s ∧ s < 65536) ∧ (0 ≤ ns ∧ ns < 65536) ∧ (0 ≤ nr ∧ nr < 65536) := by
      simp at h1
      omega
    cases q
    · have : ns = 0 ∧ nr = 0 := by simpa using h2
      obtain ⟨rfl, rfl⟩ := this
      exact putLoad_plain t s b ⟨hr.1, hr.2.1⟩ hb w
    · exact putLoad_seq t s ns nr b hr hb w
  · have e : (⟨t, s, q, ns, nr, b⟩ : Ld).put = (⟨#[]⟩, 1) := by rw [Ld.put, if_pos hbad]
    rw [e]
    exact putLoad_bad t s q ns nr b hbad w
end Go.Proofs.Ytcplhlokbnaabaa
