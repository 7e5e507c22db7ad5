/- The walk of the document's own PutLoad at numbers of two bytes. -/
import Derived.Test.YteflpekokgdllaaDataX
namespace Go.Proofs.Yteflpekokgdllaa
open Go.RowKit
set_option linter.unusedSimpArgs false
set_option linter.unusedVariables false
set_option maxRecDepth 20000

set_option maxHeartbeats 4000000 in
theorem rputLoad_seq (t s ns nr : Int) (b : ByteArray) (h : (0 ≤ t ∧ t < 65536) ∧ (0 ≤ s ∧ s < 65536) ∧ (0 ≤ ns ∧ ns < 65536) ∧ (0 ≤ nr ∧ nr < 65536)) (hb : b.size ≤ maxLen) (w : World) :
    Calls Try.prog 37 #[(⟨t, s, true, ns, nr, b⟩ : Ld).agg] w fun e w' => e = .returned (.tuple #[.string (⟨t, s, true, ns, nr, b⟩ : Ld).put.1, .int .i64 (⟨t, s, true, ns, nr, b⟩ : Ld).put.2]) ∧ Upd [] w w' := by
  simp only [maxLen] at hb
  have A0 : Blk (w.alloc (.cells #[.int .i64 t, .int .i64 s, .bool true, .int .i64 ns, .int .i64 nr, .string b] 45)) w.heap.size 45 #[.int .i64 t, .int .i64 s, .bool true, .int .i64 ns, .int .i64 nr, .string b] := Blk.new _ _ _
  have U0 : Hid (Upd [] w (w.alloc (.cells #[.int .i64 t, .int .i64 s, .bool true, .int .i64 ns, .int .i64 nr, .string b] 45))) := (Upd.refl [] w).alloc _
  have HH := Lib.hid h
  have HBAD : Hid ((⟨t, s, true, ns, nr, b⟩ : Ld).bad = false) := by
    show _ = _
    have := HH.out
    simp only [Ld.bad]
    simp
    omega
  have HC : Hid (∀ W, Upd [] (w.alloc (.cells #[.int .i64 t, .int .i64 s, .bool true, .int .i64 ns, .int .i64 nr, .string b] 45)) W → W.cell? ⟨w.heap.size, 0, none⟩ = some (.int .i64 t) ∧ W.cell? ⟨w.heap.size, 1, none⟩ = some (.int .i64 s) ∧ W.cell? ⟨w.heap.size, 2, none⟩ = some (.bool true) ∧ W.cell? ⟨w.heap.size, 3, none⟩ = some (.int .i64 ns) ∧ W.cell? ⟨w.heap.size, 4, none⟩ = some (.int .i64 nr) ∧ W.cell? ⟨w.heap.size, 5, none⟩ = some (.string b)) := fun W hu =>
    ⟨(A0.upd hu (by simp)).cell 0, (A0.upd hu (by simp)).cell 1, (A0.upd hu (by simp)).cell 2, (A0.upd hu (by simp)).cell 3, (A0.upd hu (by simp)).cell 4, (A0.upd hu (by simp)).cell 5⟩
  have HW : Hid (∀ (n : Int) (W : World), n ∈ ([t, s, ns, nr] : List Int) → Calls Try.prog 52 #[.int .i64 n] W fun e w' => e = .returned (.bool true) ∧ W = w') := by
    intro n W hn
    refine rword_ok n ?_ W
    have := HH.out
    simp only [List.mem_cons, List.not_mem_nil, or_false] at hn
    rcases hn with rfl | rfl | rfl | rfl <;> omega
  clear A0 h
  by_cases t1 : 1460 < b.size
  · have t1' : (1460 : Int) < b.size := by omega
    have HQ : Hid ((⟨t, s, true, ns, nr, b⟩ : Ld).put = (⟨#[]⟩, 2)) := by show _ = _; rw [Ld.put, HBAD.out, if_neg (by simp), if_pos t1]
    rw [HQ.out]
    clear HQ HBAD
    go_enter Try.func37, Try.ntmps37
    simp only [Ld.agg]
    go_wp2_with (go_at_call 52; refine (HW.out _ _ (by simp)).mono ?_; rintro e w' ⟨rfl, rfl⟩)
    go_ret2
    exact ⟨rfl, U0.out⟩
  have t1' : ¬ (1460 : Int) < b.size := by omega
  obtain ⟨wsz, hwsz⟩ : ∃ x, x = be 2 ((b.size : Int) + 12) := ⟨_, rfl⟩
  have zwsz : wsz.size = 2 := by rw [hwsz]; exact be_size 2 _
  have Hwsz : Hid (∀ W, Calls Try.prog 53 #[.int .i64 ((b.size : Int) + 12)] W fun e w' => e = .returned (.string wsz) ∧ Upd [] W w') := by
    intro W; rw [hwsz]; exact rtwo _ (by have := HH.out; omega) W
  obtain ⟨wt, hwt⟩ : ∃ x, x = be 2 (t) := ⟨_, rfl⟩
  have zwt : wt.size = 2 := by rw [hwt]; exact be_size 2 _
  have Hwt : Hid (∀ W, Calls Try.prog 53 #[.int .i64 (t)] W fun e w' => e = .returned (.string wt) ∧ Upd [] W w') := by
    intro W; rw [hwt]; exact rtwo _ (by have := HH.out; omega) W
  obtain ⟨ws, hws⟩ : ∃ x, x = be 2 (s) := ⟨_, rfl⟩
  have zws : ws.size = 2 := by rw [hws]; exact be_size 2 _
  have Hws : Hid (∀ W, Calls Try.prog 53 #[.int .i64 (s)] W fun e w' => e = .returned (.string ws) ∧ Upd [] W w') := by
    intro W; rw [hws]; exact rtwo _ (by have := HH.out; omega) W
  obtain ⟨wns, hwns⟩ : ∃ x, x = be 2 (ns) := ⟨_, rfl⟩
  have zwns : wns.size = 2 := by rw [hwns]; exact be_size 2 _
  have Hwns : Hid (∀ W, Calls Try.prog 53 #[.int .i64 (ns)] W fun e w' => e = .returned (.string wns) ∧ Upd [] W w') := by
    intro W; rw [hwns]; exact rtwo _ (by have := HH.out; omega) W
  obtain ⟨wnr, hwnr⟩ : ∃ x, x = be 2 (nr) := ⟨_, rfl⟩
  have zwnr : wnr.size = 2 := by rw [hwnr]; exact be_size 2 _
  have Hwnr : Hid (∀ W, Calls Try.prog 53 #[.int .i64 (nr)] W fun e w' => e = .returned (.string wnr) ∧ Upd [] W w') := by
    intro W; rw [hwnr]; exact rtwo _ (by have := HH.out; omega) W
  have HQ : Hid ((⟨t, s, true, ns, nr, b⟩ : Ld).put = (((((((⟨#[72, 2]⟩ : ByteArray) ++ wsz) ++ wt) ++ ws) ++ wns) ++ wnr) ++ b, 0)) := by
    show _ = _
    have e : (⟨t, s, true, ns, nr, b⟩ : Ld).bytes = ((((((⟨#[72, 2]⟩ : ByteArray) ++ wsz) ++ wt) ++ ws) ++ wns) ++ wnr) ++ b := by
      show strOfNums [72, 2] ++ wordsOf [(b.size : Int) + 12, t, s, ns, nr] ⟨#[]⟩ ++ b = _
      rw [show strOfNums [72, 2] = (⟨#[72, 2]⟩ : ByteArray) from rfl]
      have hww : wordsOf [(b.size : Int) + 12, t, s, ns, nr] ⟨#[]⟩ = wsz ++ wt ++ ws ++ wns ++ wnr := by
        simp only [wordsOf, hwsz, hwt, hws, hwns, hwnr]
        congr 1
      rw [hww]
      simp only [ByteArray.append_assoc]
    rw [Ld.put, HBAD.out, if_neg (by simp), if_neg t1, e]
  rw [HQ.out]
  clear HQ HBAD hwsz hwt hws hwns hwnr
  go_enter Try.func37, Try.ntmps37
  simp only [Ld.agg]
  go_wp2_with (go_at_call 52; refine (HW.out _ _ (by simp)).mono ?_; rintro e w' ⟨rfl, rfl⟩)
  generalize w.alloc (.cells #[.int .i64 t, .int .i64 s, .bool true, .int .i64 ns, .int .i64 nr, .string b] 45) = wA at *
  refine wp_region_facts (.pure) (trivial) [.is (.pointer (some ⟨w.heap.size, 5, none⟩)), .is (.string b), .is (.int .i64 b.size), .is (.int .i64 ((b.size : Int) + 12)), .is (.string wsz), .is (.string ((⟨#[72, 2]⟩ : ByteArray) ++ wsz)), .is (.pointer (some ⟨w.heap.size, 0, none⟩)), .is (.int .i64 t), .is (.string wt), .is (.string (((⟨#[72, 2]⟩ : ByteArray) ++ wsz) ++ wt)), .is (.pointer (some ⟨w.heap.size, 1, none⟩)), .is (.int .i64 s), .is (.string ws), .is (.string ((((⟨#[72, 2]⟩ : ByteArray) ++ wsz) ++ wt) ++ ws)), .is (.pointer (some ⟨w.heap.size, 3, none⟩)), .is (.int .i64 ns), .is (.string wns), .is (.string (((((⟨#[72, 2]⟩ : ByteArray) ++ wsz) ++ wt) ++ ws) ++ wns)), .is (.pointer (some ⟨w.heap.size, 4, none⟩)), .is (.int .i64 nr), .is (.string wnr), .is (.string ((((((⟨#[72, 2]⟩ : ByteArray) ++ wsz) ++ wt) ++ ws) ++ wns) ++ wnr)), .is (.pointer (some ⟨w.heap.size, 5, none⟩)), .is (.string b), .is (.string (((((((⟨#[72, 2]⟩ : ByteArray) ++ wsz) ++ wt) ++ ws) ++ wns) ++ wnr) ++ b)), .is (.string (((((((⟨#[72, 2]⟩ : ByteArray) ++ wsz) ++ wt) ++ ws) ++ wns) ++ wnr) ++ b)), .is (.int .i64 0)] (by kernel_rfl) (by kernel_rfl) (by kernel_rfl) (by kernel_rfl) ?_ ?_
  · refine Steps.cons ?_ (Steps.cons ?_ (Steps.cons ?_ (Steps.cons ?_ (Steps.cons ?_ (Steps.cons ?_ (Steps.cons ?_ (Steps.cons ?_ (Steps.cons ?_ (Steps.cons ?_ (Steps.cons ?_ (Steps.cons ?_ (Steps.cons ?_ (Steps.cons ?_ (Steps.cons ?_ (Steps.cons ?_ (Steps.cons ?_ (Steps.cons ?_ (Steps.cons ?_ (Steps.cons ?_ (Steps.cons ?_ (Steps.cons ?_ (Steps.cons ?_ (Steps.cons ?_ (Steps.cons ?_ (Steps.cons ?_ (Steps.cons ?_ Steps.nil))))))))))))))))))))))))))
    · refine step_is _ rfl ⟨_, rfl⟩ rfl (fun _ _ => trivial) ?_
      intro a W hi hF hD
      have hu := hi.upd
      have e1 : a.tmps[1]?.getD undef = _ := (ev a 1).symm.trans (hF 1 (by kernel_rfl))
      clear hF hD
      have hc := HC.out W hu
      go_simp
    · refine step_is _ rfl ⟨_, rfl⟩ rfl (fun _ _ => trivial) ?_
      intro a W hi hF hD
      have hu := hi.upd
      have e65 : a.tmps[65]?.getD undef = .pointer (some ⟨w.heap.size, 5, none⟩) := (ev a 65).symm.trans (hD _ (Array.mem_of_getElem? (i := 0) rfl) rfl).1
      clear hF hD
      have hc := HC.out W hu
      go_simp
    · refine step_is _ rfl ⟨_, rfl⟩ rfl (fun _ _ => trivial) ?_
      intro a W hi hF hD
      have hu := hi.upd
      have e66 : a.tmps[66]?.getD undef = .string b := (ev a 66).symm.trans (hD _ (Array.mem_of_getElem? (i := 0) rfl) rfl).1
      clear hF hD
      have hc := HC.out W hu
      go_simp
    · refine step_is _ rfl ⟨_, rfl⟩ rfl (fun _ _ => trivial) ?_
      intro a W hi hF hD
      have hu := hi.upd
      have e67 : a.tmps[67]?.getD undef = .int .i64 b.size := (ev a 67).symm.trans (hD _ (Array.mem_of_getElem? (i := 0) rfl) rfl).1
      clear hF hD
      have hc := HC.out W hu
      go_simp
      exact IntWalk.i64_in ((b.size : Int) + 12) (by omega)
    · refine step_call rfl (fun _ _ => trivial) ?_
      intro a W hi hF hD
      have hu := hi.upd
      have e68 : a.tmps[68]?.getD undef = .int .i64 ((b.size : Int) + 12) := (ev a 68).symm.trans (hD _ (Array.mem_of_getElem? (i := 0) rfl) rfl).1
      clear hF hD
      have hc := HC.out W hu
      refine ⟨_, _, by (go_simp; first | done | rfl | exact ⟨rfl, rfl⟩), ?_⟩
      refine (Hwsz.out _).mono ?_
      rintro e w2 ⟨rfl, hu2⟩
      first | exact ⟨_, rfl, hu2, rfl⟩ | (cases hu2; exact ⟨_, rfl, Upd.refl _ _, rfl⟩)
    · refine step_is _ rfl ⟨_, rfl⟩ rfl (fun _ _ => trivial) ?_
      intro a W hi hF hD
      have hu := hi.upd
      have e69 : a.tmps[69]?.getD undef = .string wsz := (ev a 69).symm.trans (hD _ (Array.mem_of_getElem? (i := 0) rfl) rfl).1
      clear hF hD
      have hc := HC.out W hu
      have := run_string_add_sum (P := Try.prog) W (⟨#[72, 2]⟩ : ByteArray) wsz (by rw [zwsz]; decide)
      go_simp
    · refine step_is _ rfl ⟨_, rfl⟩ rfl (fun _ _ => trivial) ?_
      intro a W hi hF hD
      have hu := hi.upd
      have e1 : a.tmps[1]?.getD undef = _ := (ev a 1).symm.trans (hF 1 (by kernel_rfl))
      clear hF hD
      have hc := HC.out W hu
      go_simp
    · refine step_is _ rfl ⟨_, rfl⟩ rfl (fun _ _ => trivial) ?_
      intro a W hi hF hD
      have hu := hi.upd
      have e71 : a.tmps[71]?.getD undef = .pointer (some ⟨w.heap.size, 0, none⟩) := (ev a 71).symm.trans (hD _ (Array.mem_of_getElem? (i := 0) rfl) rfl).1
      clear hF hD
      have hc := HC.out W hu
      go_simp
    · refine step_call rfl (fun _ _ => trivial) ?_
      intro a W hi hF hD
      have hu := hi.upd
      have e72 : a.tmps[72]?.getD undef = .int .i64 t := (ev a 72).symm.trans (hD _ (Array.mem_of_getElem? (i := 0) rfl) rfl).1
      clear hF hD
      have hc := HC.out W hu
      refine ⟨_, _, by (go_simp; first | done | rfl | exact ⟨rfl, rfl⟩), ?_⟩
      refine (Hwt.out _).mono ?_
      rintro e w2 ⟨rfl, hu2⟩
      first | exact ⟨_, rfl, hu2, rfl⟩ | (cases hu2; exact ⟨_, rfl, Upd.refl _ _, rfl⟩)
    · refine step_is _ rfl ⟨_, rfl⟩ rfl (fun _ _ => trivial) ?_
      intro a W hi hF hD
      have hu := hi.upd
      have e70 : a.tmps[70]?.getD undef = .string ((⟨#[72, 2]⟩ : ByteArray) ++ wsz) := (ev a 70).symm.trans (hD _ (Array.mem_of_getElem? (i := 0) rfl) rfl).1
      have e73 : a.tmps[73]?.getD undef = .string wt := (ev a 73).symm.trans (hD _ (Array.mem_of_getElem? (i := 1) rfl) rfl).1
      clear hF hD
      have hc := HC.out W hu
      have := run_string_add_sum (P := Try.prog) W ((⟨#[72, 2]⟩ : ByteArray) ++ wsz) wt (by rw [ByteArray.size_append, zwsz, zwt]; decide)
      go_simp
    · refine step_is _ rfl ⟨_, rfl⟩ rfl (fun _ _ => trivial) ?_
      intro a W hi hF hD
      have hu := hi.upd
      have e1 : a.tmps[1]?.getD undef = _ := (ev a 1).symm.trans (hF 1 (by kernel_rfl))
      clear hF hD
      have hc := HC.out W hu
      go_simp
    · refine step_is _ rfl ⟨_, rfl⟩ rfl (fun _ _ => trivial) ?_
      intro a W hi hF hD
      have hu := hi.upd
      have e75 : a.tmps[75]?.getD undef = .pointer (some ⟨w.heap.size, 1, none⟩) := (ev a 75).symm.trans (hD _ (Array.mem_of_getElem? (i := 0) rfl) rfl).1
      clear hF hD
      have hc := HC.out W hu
      go_simp
    · refine step_call rfl (fun _ _ => trivial) ?_
      intro a W hi hF hD
      have hu := hi.upd
      have e76 : a.tmps[76]?.getD undef = .int .i64 s := (ev a 76).symm.trans (hD _ (Array.mem_of_getElem? (i := 0) rfl) rfl).1
      clear hF hD
      have hc := HC.out W hu
      refine ⟨_, _, by (go_simp; first | done | rfl | exact ⟨rfl, rfl⟩), ?_⟩
      refine (Hws.out _).mono ?_
      rintro e w2 ⟨rfl, hu2⟩
      first | exact ⟨_, rfl, hu2, rfl⟩ | (cases hu2; exact ⟨_, rfl, Upd.refl _ _, rfl⟩)
    · refine step_is _ rfl ⟨_, rfl⟩ rfl (fun _ _ => trivial) ?_
      intro a W hi hF hD
      have hu := hi.upd
      have e74 : a.tmps[74]?.getD undef = .string (((⟨#[72, 2]⟩ : ByteArray) ++ wsz) ++ wt) := (ev a 74).symm.trans (hD _ (Array.mem_of_getElem? (i := 0) rfl) rfl).1
      have e77 : a.tmps[77]?.getD undef = .string ws := (ev a 77).symm.trans (hD _ (Array.mem_of_getElem? (i := 1) rfl) rfl).1
      clear hF hD
      have hc := HC.out W hu
      have := run_string_add_sum (P := Try.prog) W (((⟨#[72, 2]⟩ : ByteArray) ++ wsz) ++ wt) ws (by rw [ByteArray.size_append, ByteArray.size_append, zwsz, zwt, zws]; decide)
      go_simp
    · refine step_is _ rfl ⟨_, rfl⟩ rfl (fun _ _ => trivial) ?_
      intro a W hi hF hD
      have hu := hi.upd
      have e1 : a.tmps[1]?.getD undef = _ := (ev a 1).symm.trans (hF 1 (by kernel_rfl))
      clear hF hD
      have hc := HC.out W hu
      go_simp
    · refine step_is _ rfl ⟨_, rfl⟩ rfl (fun _ _ => trivial) ?_
      intro a W hi hF hD
      have hu := hi.upd
      have e79 : a.tmps[79]?.getD undef = .pointer (some ⟨w.heap.size, 3, none⟩) := (ev a 79).symm.trans (hD _ (Array.mem_of_getElem? (i := 0) rfl) rfl).1
      clear hF hD
      have hc := HC.out W hu
      go_simp
    · refine step_call rfl (fun _ _ => trivial) ?_
      intro a W hi hF hD
      have hu := hi.upd
      have e80 : a.tmps[80]?.getD undef = .int .i64 ns := (ev a 80).symm.trans (hD _ (Array.mem_of_getElem? (i := 0) rfl) rfl).1
      clear hF hD
      have hc := HC.out W hu
      refine ⟨_, _, by (go_simp; first | done | rfl | exact ⟨rfl, rfl⟩), ?_⟩
      refine (Hwns.out _).mono ?_
      rintro e w2 ⟨rfl, hu2⟩
      first | exact ⟨_, rfl, hu2, rfl⟩ | (cases hu2; exact ⟨_, rfl, Upd.refl _ _, rfl⟩)
    · refine step_is _ rfl ⟨_, rfl⟩ rfl (fun _ _ => trivial) ?_
      intro a W hi hF hD
      have hu := hi.upd
      have e78 : a.tmps[78]?.getD undef = .string ((((⟨#[72, 2]⟩ : ByteArray) ++ wsz) ++ wt) ++ ws) := (ev a 78).symm.trans (hD _ (Array.mem_of_getElem? (i := 0) rfl) rfl).1
      have e81 : a.tmps[81]?.getD undef = .string wns := (ev a 81).symm.trans (hD _ (Array.mem_of_getElem? (i := 1) rfl) rfl).1
      clear hF hD
      have hc := HC.out W hu
      have := run_string_add_sum (P := Try.prog) W ((((⟨#[72, 2]⟩ : ByteArray) ++ wsz) ++ wt) ++ ws) wns (by rw [ByteArray.size_append, ByteArray.size_append, ByteArray.size_append, zwsz, zwt, zws, zwns]; decide)
      go_simp
    · refine step_is _ rfl ⟨_, rfl⟩ rfl (fun _ _ => trivial) ?_
      intro a W hi hF hD
      have hu := hi.upd
      have e1 : a.tmps[1]?.getD undef = _ := (ev a 1).symm.trans (hF 1 (by kernel_rfl))
      clear hF hD
      have hc := HC.out W hu
      go_simp
    · refine step_is _ rfl ⟨_, rfl⟩ rfl (fun _ _ => trivial) ?_
      intro a W hi hF hD
      have hu := hi.upd
      have e83 : a.tmps[83]?.getD undef = .pointer (some ⟨w.heap.size, 4, none⟩) := (ev a 83).symm.trans (hD _ (Array.mem_of_getElem? (i := 0) rfl) rfl).1
      clear hF hD
      have hc := HC.out W hu
      go_simp
    · refine step_call rfl (fun _ _ => trivial) ?_
      intro a W hi hF hD
      have hu := hi.upd
      have e84 : a.tmps[84]?.getD undef = .int .i64 nr := (ev a 84).symm.trans (hD _ (Array.mem_of_getElem? (i := 0) rfl) rfl).1
      clear hF hD
      have hc := HC.out W hu
      refine ⟨_, _, by (go_simp; first | done | rfl | exact ⟨rfl, rfl⟩), ?_⟩
      refine (Hwnr.out _).mono ?_
      rintro e w2 ⟨rfl, hu2⟩
      first | exact ⟨_, rfl, hu2, rfl⟩ | (cases hu2; exact ⟨_, rfl, Upd.refl _ _, rfl⟩)
    · refine step_is _ rfl ⟨_, rfl⟩ rfl (fun _ _ => trivial) ?_
      intro a W hi hF hD
      have hu := hi.upd
      have e82 : a.tmps[82]?.getD undef = .string (((((⟨#[72, 2]⟩ : ByteArray) ++ wsz) ++ wt) ++ ws) ++ wns) := (ev a 82).symm.trans (hD _ (Array.mem_of_getElem? (i := 0) rfl) rfl).1
      have e85 : a.tmps[85]?.getD undef = .string wnr := (ev a 85).symm.trans (hD _ (Array.mem_of_getElem? (i := 1) rfl) rfl).1
      clear hF hD
      have hc := HC.out W hu
      have := run_string_add_sum (P := Try.prog) W (((((⟨#[72, 2]⟩ : ByteArray) ++ wsz) ++ wt) ++ ws) ++ wns) wnr (by rw [ByteArray.size_append, ByteArray.size_append, ByteArray.size_append, ByteArray.size_append, zwsz, zwt, zws, zwns, zwnr]; decide)
      go_simp
    · refine step_is _ rfl ⟨_, rfl⟩ rfl (fun _ _ => trivial) ?_
      intro a W hi hF hD
      have hu := hi.upd
      have e1 : a.tmps[1]?.getD undef = _ := (ev a 1).symm.trans (hF 1 (by kernel_rfl))
      clear hF hD
      have hc := HC.out W hu
      go_simp
    · refine step_is _ rfl ⟨_, rfl⟩ rfl (fun _ _ => trivial) ?_
      intro a W hi hF hD
      have hu := hi.upd
      have e87 : a.tmps[87]?.getD undef = .pointer (some ⟨w.heap.size, 5, none⟩) := (ev a 87).symm.trans (hD _ (Array.mem_of_getElem? (i := 0) rfl) rfl).1
      clear hF hD
      have hc := HC.out W hu
      go_simp
    · refine step_is _ rfl ⟨_, rfl⟩ rfl (fun _ _ => trivial) ?_
      intro a W hi hF hD
      have hu := hi.upd
      have e86 : a.tmps[86]?.getD undef = .string ((((((⟨#[72, 2]⟩ : ByteArray) ++ wsz) ++ wt) ++ ws) ++ wns) ++ wnr) := (ev a 86).symm.trans (hD _ (Array.mem_of_getElem? (i := 0) rfl) rfl).1
      have e88 : a.tmps[88]?.getD undef = .string b := (ev a 88).symm.trans (hD _ (Array.mem_of_getElem? (i := 1) rfl) rfl).1
      clear hF hD
      have hc := HC.out W hu
      have := run_string_add_sum (P := Try.prog) W ((((((⟨#[72, 2]⟩ : ByteArray) ++ wsz) ++ wt) ++ ws) ++ wns) ++ wnr) b (by simp only [ByteArray.size_append, zwsz, zwt, zws, zwns, zwnr, show (⟨#[72, 2]⟩ : ByteArray).size = 2 from rfl]; omega)
      go_simp
    · refine step_is _ rfl ⟨_, rfl⟩ rfl (fun _ _ => trivial) ?_
      intro a W hi hF hD
      have hu := hi.upd
      have e89 : a.tmps[89]?.getD undef = .string (((((((⟨#[72, 2]⟩ : ByteArray) ++ wsz) ++ wt) ++ ws) ++ wns) ++ wnr) ++ b) := (ev a 89).symm.trans (hD _ (Array.mem_of_getElem? (i := 0) rfl) rfl).1
      clear hF hD
      have hc := HC.out W hu
      go_simp
    · refine step_is _ rfl ⟨_, rfl⟩ rfl (fun _ _ => trivial) ?_
      intro a W hi hF hD
      have hu := hi.upd
      clear hF hD
      have hc := HC.out W hu
      go_simp
  intro vals W hu hv
  have v0 : vals 0 = .pointer (some ⟨w.heap.size, 5, none⟩) := (hv 0 (by decide)).1
  have v1 : vals 1 = .string b := (hv 1 (by decide)).1
  have v2 : vals 2 = .int .i64 b.size := (hv 2 (by decide)).1
  have v3 : vals 3 = .int .i64 ((b.size : Int) + 12) := (hv 3 (by decide)).1
  have v4 : vals 4 = .string wsz := (hv 4 (by decide)).1
  have v5 : vals 5 = .string ((⟨#[72, 2]⟩ : ByteArray) ++ wsz) := (hv 5 (by decide)).1
  have v6 : vals 6 = .pointer (some ⟨w.heap.size, 0, none⟩) := (hv 6 (by decide)).1
  have v7 : vals 7 = .int .i64 t := (hv 7 (by decide)).1
  have v8 : vals 8 = .string wt := (hv 8 (by decide)).1
  have v9 : vals 9 = .string (((⟨#[72, 2]⟩ : ByteArray) ++ wsz) ++ wt) := (hv 9 (by decide)).1
  have v10 : vals 10 = .pointer (some ⟨w.heap.size, 1, none⟩) := (hv 10 (by decide)).1
  have v11 : vals 11 = .int .i64 s := (hv 11 (by decide)).1
  have v12 : vals 12 = .string ws := (hv 12 (by decide)).1
  have v13 : vals 13 = .string ((((⟨#[72, 2]⟩ : ByteArray) ++ wsz) ++ wt) ++ ws) := (hv 13 (by decide)).1
  have v14 : vals 14 = .pointer (some ⟨w.heap.size, 3, none⟩) := (hv 14 (by decide)).1
  have v15 : vals 15 = .int .i64 ns := (hv 15 (by decide)).1
  have v16 : vals 16 = .string wns := (hv 16 (by decide)).1
  have v17 : vals 17 = .string (((((⟨#[72, 2]⟩ : ByteArray) ++ wsz) ++ wt) ++ ws) ++ wns) := (hv 17 (by decide)).1
  have v18 : vals 18 = .pointer (some ⟨w.heap.size, 4, none⟩) := (hv 18 (by decide)).1
  have v19 : vals 19 = .int .i64 nr := (hv 19 (by decide)).1
  have v20 : vals 20 = .string wnr := (hv 20 (by decide)).1
  have v21 : vals 21 = .string ((((((⟨#[72, 2]⟩ : ByteArray) ++ wsz) ++ wt) ++ ws) ++ wns) ++ wnr) := (hv 21 (by decide)).1
  have v22 : vals 22 = .pointer (some ⟨w.heap.size, 5, none⟩) := (hv 22 (by decide)).1
  have v23 : vals 23 = .string b := (hv 23 (by decide)).1
  have v24 : vals 24 = .string (((((((⟨#[72, 2]⟩ : ByteArray) ++ wsz) ++ wt) ++ ws) ++ wns) ++ wnr) ++ b) := (hv 24 (by decide)).1
  have v25 : vals 25 = .string (((((((⟨#[72, 2]⟩ : ByteArray) ++ wsz) ++ wt) ++ ws) ++ wns) ++ wnr) ++ b) := (hv 25 (by decide)).1
  have v26 : vals 26 = .int .i64 0 := (hv 26 (by decide)).1
  clear hv
  simp only [putAll, Act.put, Nat.zero_add, Nat.reduceAdd, v0, v1, v2, v3, v4, v5, v6, v7, v8, v9, v10, v11, v12, v13, v14, v15, v16, v17, v18, v19, v20, v21, v22, v23, v24, v25, v26, List.setIfInBounds_toArray, List.set_cons_zero, List.set_cons_succ]
  clear v0 v1 v2 v3 v4 v5 v6 v7 v8 v9 v10 v11 v12 v13 v14 v15 v16 v17 v18 v19 v20 v21 v22 v23 v24 v25 v26
  go_wp2_with fail
  go_ret2
  exact ⟨rfl, U0.out.trans hu⟩

set_option maxHeartbeats 4000000 in
theorem rputLoad_plain (t s : Int) (b : ByteArray) (h : (0 ≤ t ∧ t < 65536) ∧ (0 ≤ s ∧ s < 65536)) (hb : b.size ≤ maxLen) (w : World) :
    Calls Try.prog 37 #[(⟨t, s, false, 0, 0, b⟩ : Ld).agg] w fun e w' => e = .returned (.tuple #[.string (⟨t, s, false, 0, 0, b⟩ : Ld).put.1, .int .i64 (⟨t, s, false, 0, 0, b⟩ : Ld).put.2]) ∧ Upd [] w w' := by
  simp only [maxLen] at hb
  have A0 : Blk (w.alloc (.cells #[.int .i64 t, .int .i64 s, .bool false, .int .i64 0, .int .i64 0, .string b] 45)) w.heap.size 45 #[.int .i64 t, .int .i64 s, .bool false, .int .i64 0, .int .i64 0, .string b] := Blk.new _ _ _
  have U0 : Hid (Upd [] w (w.alloc (.cells #[.int .i64 t, .int .i64 s, .bool false, .int .i64 0, .int .i64 0, .string b] 45))) := (Upd.refl [] w).alloc _
  have HH := Lib.hid h
  have HBAD : Hid ((⟨t, s, false, 0, 0, b⟩ : Ld).bad = false) := by
    show _ = _
    have := HH.out
    simp only [Ld.bad]
    simp
    omega
  have HC : Hid (∀ W, Upd [] (w.alloc (.cells #[.int .i64 t, .int .i64 s, .bool false, .int .i64 0, .int .i64 0, .string b] 45)) W → W.cell? ⟨w.heap.size, 0, none⟩ = some (.int .i64 t) ∧ W.cell? ⟨w.heap.size, 1, none⟩ = some (.int .i64 s) ∧ W.cell? ⟨w.heap.size, 2, none⟩ = some (.bool false) ∧ W.cell? ⟨w.heap.size, 3, none⟩ = some (.int .i64 0) ∧ W.cell? ⟨w.heap.size, 4, none⟩ = some (.int .i64 0) ∧ W.cell? ⟨w.heap.size, 5, none⟩ = some (.string b)) := fun W hu =>
    ⟨(A0.upd hu (by simp)).cell 0, (A0.upd hu (by simp)).cell 1, (A0.upd hu (by simp)).cell 2, (A0.upd hu (by simp)).cell 3, (A0.upd hu (by simp)).cell 4, (A0.upd hu (by simp)).cell 5⟩
  have HW : Hid (∀ (n : Int) (W : World), n ∈ ([t, s, 0, 0] : List Int) → Calls Try.prog 52 #[.int .i64 n] W fun e w' => e = .returned (.bool true) ∧ W = w') := by
    intro n W hn
    refine rword_ok n ?_ W
    have := HH.out
    simp only [List.mem_cons, List.not_mem_nil, or_false] at hn
    rcases hn with rfl | rfl | rfl | rfl <;> omega
  clear A0 h
  by_cases t1 : 1460 < b.size
  · have t1' : (1460 : Int) < b.size := by omega
    have HQ : Hid ((⟨t, s, false, 0, 0, b⟩ : Ld).put = (⟨#[]⟩, 2)) := by show _ = _; rw [Ld.put, HBAD.out, if_neg (by simp), if_pos t1]
    rw [HQ.out]
    clear HQ HBAD
    go_enter Try.func37, Try.ntmps37
    simp only [Ld.agg]
    go_wp2_with (go_at_call 52; refine (HW.out _ _ (by simp)).mono ?_; rintro e w' ⟨rfl, rfl⟩)
    go_ret2
    exact ⟨rfl, U0.out⟩
  have t1' : ¬ (1460 : Int) < b.size := by omega
  obtain ⟨wsz, hwsz⟩ : ∃ x, x = be 2 ((b.size : Int) + 8) := ⟨_, rfl⟩
  have zwsz : wsz.size = 2 := by rw [hwsz]; exact be_size 2 _
  have Hwsz : Hid (∀ W, Calls Try.prog 53 #[.int .i64 ((b.size : Int) + 8)] W fun e w' => e = .returned (.string wsz) ∧ Upd [] W w') := by
    intro W; rw [hwsz]; exact rtwo _ (by have := HH.out; omega) W
  obtain ⟨wt, hwt⟩ : ∃ x, x = be 2 (t) := ⟨_, rfl⟩
  have zwt : wt.size = 2 := by rw [hwt]; exact be_size 2 _
  have Hwt : Hid (∀ W, Calls Try.prog 53 #[.int .i64 (t)] W fun e w' => e = .returned (.string wt) ∧ Upd [] W w') := by
    intro W; rw [hwt]; exact rtwo _ (by have := HH.out; omega) W
  obtain ⟨ws, hws⟩ : ∃ x, x = be 2 (s) := ⟨_, rfl⟩
  have zws : ws.size = 2 := by rw [hws]; exact be_size 2 _
  have Hws : Hid (∀ W, Calls Try.prog 53 #[.int .i64 (s)] W fun e w' => e = .returned (.string ws) ∧ Upd [] W w') := by
    intro W; rw [hws]; exact rtwo _ (by have := HH.out; omega) W
  have HQ : Hid ((⟨t, s, false, 0, 0, b⟩ : Ld).put = (((((⟨#[64, 2]⟩ : ByteArray) ++ wsz) ++ wt) ++ ws) ++ b, 0)) := by
    show _ = _
    have e : (⟨t, s, false, 0, 0, b⟩ : Ld).bytes = ((((⟨#[64, 2]⟩ : ByteArray) ++ wsz) ++ wt) ++ ws) ++ b := by
      show strOfNums [64, 2] ++ wordsOf [(b.size : Int) + 8, t, s] ⟨#[]⟩ ++ b = _
      rw [show strOfNums [64, 2] = (⟨#[64, 2]⟩ : ByteArray) from rfl]
      have hww : wordsOf [(b.size : Int) + 8, t, s] ⟨#[]⟩ = wsz ++ wt ++ ws := by
        simp only [wordsOf, hwsz, hwt, hws]
        congr 1
      rw [hww]
      simp only [ByteArray.append_assoc]
    rw [Ld.put, HBAD.out, if_neg (by simp), if_neg t1, e]
  rw [HQ.out]
  clear HQ HBAD hwsz hwt hws
  go_enter Try.func37, Try.ntmps37
  simp only [Ld.agg]
  go_wp2_with (go_at_call 52; refine (HW.out _ _ (by simp)).mono ?_; rintro e w' ⟨rfl, rfl⟩)
  generalize w.alloc (.cells #[.int .i64 t, .int .i64 s, .bool false, .int .i64 0, .int .i64 0, .string b] 45) = wA at *
  refine wp_region_facts (.pure) (trivial) [.is (.pointer (some ⟨w.heap.size, 5, none⟩)), .is (.string b), .is (.int .i64 b.size), .is (.int .i64 ((b.size : Int) + 8)), .is (.string wsz), .is (.string ((⟨#[64, 2]⟩ : ByteArray) ++ wsz)), .is (.pointer (some ⟨w.heap.size, 0, none⟩)), .is (.int .i64 t), .is (.string wt), .is (.string (((⟨#[64, 2]⟩ : ByteArray) ++ wsz) ++ wt)), .is (.pointer (some ⟨w.heap.size, 1, none⟩)), .is (.int .i64 s), .is (.string ws), .is (.string ((((⟨#[64, 2]⟩ : ByteArray) ++ wsz) ++ wt) ++ ws)), .is (.pointer (some ⟨w.heap.size, 5, none⟩)), .is (.string b), .is (.string (((((⟨#[64, 2]⟩ : ByteArray) ++ wsz) ++ wt) ++ ws) ++ b)), .is (.string (((((⟨#[64, 2]⟩ : ByteArray) ++ wsz) ++ wt) ++ ws) ++ b)), .is (.int .i64 0)] (by kernel_rfl) (by kernel_rfl) (by kernel_rfl) (by kernel_rfl) ?_ ?_
  · refine Steps.cons ?_ (Steps.cons ?_ (Steps.cons ?_ (Steps.cons ?_ (Steps.cons ?_ (Steps.cons ?_ (Steps.cons ?_ (Steps.cons ?_ (Steps.cons ?_ (Steps.cons ?_ (Steps.cons ?_ (Steps.cons ?_ (Steps.cons ?_ (Steps.cons ?_ (Steps.cons ?_ (Steps.cons ?_ (Steps.cons ?_ (Steps.cons ?_ (Steps.cons ?_ Steps.nil))))))))))))))))))
    · refine step_is _ rfl ⟨_, rfl⟩ rfl (fun _ _ => trivial) ?_
      intro a W hi hF hD
      have hu := hi.upd
      have e1 : a.tmps[1]?.getD undef = _ := (ev a 1).symm.trans (hF 1 (by kernel_rfl))
      clear hF hD
      have hc := HC.out W hu
      go_simp
    · refine step_is _ rfl ⟨_, rfl⟩ rfl (fun _ _ => trivial) ?_
      intro a W hi hF hD
      have hu := hi.upd
      have e48 : a.tmps[48]?.getD undef = .pointer (some ⟨w.heap.size, 5, none⟩) := (ev a 48).symm.trans (hD _ (Array.mem_of_getElem? (i := 0) rfl) rfl).1
      clear hF hD
      have hc := HC.out W hu
      go_simp
    · refine step_is _ rfl ⟨_, rfl⟩ rfl (fun _ _ => trivial) ?_
      intro a W hi hF hD
      have hu := hi.upd
      have e49 : a.tmps[49]?.getD undef = .string b := (ev a 49).symm.trans (hD _ (Array.mem_of_getElem? (i := 0) rfl) rfl).1
      clear hF hD
      have hc := HC.out W hu
      go_simp
    · refine step_is _ rfl ⟨_, rfl⟩ rfl (fun _ _ => trivial) ?_
      intro a W hi hF hD
      have hu := hi.upd
      have e50 : a.tmps[50]?.getD undef = .int .i64 b.size := (ev a 50).symm.trans (hD _ (Array.mem_of_getElem? (i := 0) rfl) rfl).1
      clear hF hD
      have hc := HC.out W hu
      go_simp
      exact IntWalk.i64_in ((b.size : Int) + 8) (by omega)
    · refine step_call rfl (fun _ _ => trivial) ?_
      intro a W hi hF hD
      have hu := hi.upd
      have e51 : a.tmps[51]?.getD undef = .int .i64 ((b.size : Int) + 8) := (ev a 51).symm.trans (hD _ (Array.mem_of_getElem? (i := 0) rfl) rfl).1
      clear hF hD
      have hc := HC.out W hu
      refine ⟨_, _, by (go_simp; first | done | rfl | exact ⟨rfl, rfl⟩), ?_⟩
      refine (Hwsz.out _).mono ?_
      rintro e w2 ⟨rfl, hu2⟩
      first | exact ⟨_, rfl, hu2, rfl⟩ | (cases hu2; exact ⟨_, rfl, Upd.refl _ _, rfl⟩)
    · refine step_is _ rfl ⟨_, rfl⟩ rfl (fun _ _ => trivial) ?_
      intro a W hi hF hD
      have hu := hi.upd
      have e52 : a.tmps[52]?.getD undef = .string wsz := (ev a 52).symm.trans (hD _ (Array.mem_of_getElem? (i := 0) rfl) rfl).1
      clear hF hD
      have hc := HC.out W hu
      have := run_string_add_sum (P := Try.prog) W (⟨#[64, 2]⟩ : ByteArray) wsz (by rw [zwsz]; decide)
      go_simp
    · refine step_is _ rfl ⟨_, rfl⟩ rfl (fun _ _ => trivial) ?_
      intro a W hi hF hD
      have hu := hi.upd
      have e1 : a.tmps[1]?.getD undef = _ := (ev a 1).symm.trans (hF 1 (by kernel_rfl))
      clear hF hD
      have hc := HC.out W hu
      go_simp
    · refine step_is _ rfl ⟨_, rfl⟩ rfl (fun _ _ => trivial) ?_
      intro a W hi hF hD
      have hu := hi.upd
      have e54 : a.tmps[54]?.getD undef = .pointer (some ⟨w.heap.size, 0, none⟩) := (ev a 54).symm.trans (hD _ (Array.mem_of_getElem? (i := 0) rfl) rfl).1
      clear hF hD
      have hc := HC.out W hu
      go_simp
    · refine step_call rfl (fun _ _ => trivial) ?_
      intro a W hi hF hD
      have hu := hi.upd
      have e55 : a.tmps[55]?.getD undef = .int .i64 t := (ev a 55).symm.trans (hD _ (Array.mem_of_getElem? (i := 0) rfl) rfl).1
      clear hF hD
      have hc := HC.out W hu
      refine ⟨_, _, by (go_simp; first | done | rfl | exact ⟨rfl, rfl⟩), ?_⟩
      refine (Hwt.out _).mono ?_
      rintro e w2 ⟨rfl, hu2⟩
      first | exact ⟨_, rfl, hu2, rfl⟩ | (cases hu2; exact ⟨_, rfl, Upd.refl _ _, rfl⟩)
    · refine step_is _ rfl ⟨_, rfl⟩ rfl (fun _ _ => trivial) ?_
      intro a W hi hF hD
      have hu := hi.upd
      have e53 : a.tmps[53]?.getD undef = .string ((⟨#[64, 2]⟩ : ByteArray) ++ wsz) := (ev a 53).symm.trans (hD _ (Array.mem_of_getElem? (i := 0) rfl) rfl).1
      have e56 : a.tmps[56]?.getD undef = .string wt := (ev a 56).symm.trans (hD _ (Array.mem_of_getElem? (i := 1) rfl) rfl).1
      clear hF hD
      have hc := HC.out W hu
      have := run_string_add_sum (P := Try.prog) W ((⟨#[64, 2]⟩ : ByteArray) ++ wsz) wt (by rw [ByteArray.size_append, zwsz, zwt]; decide)
      go_simp
    · refine step_is _ rfl ⟨_, rfl⟩ rfl (fun _ _ => trivial) ?_
      intro a W hi hF hD
      have hu := hi.upd
      have e1 : a.tmps[1]?.getD undef = _ := (ev a 1).symm.trans (hF 1 (by kernel_rfl))
      clear hF hD
      have hc := HC.out W hu
      go_simp
    · refine step_is _ rfl ⟨_, rfl⟩ rfl (fun _ _ => trivial) ?_
      intro a W hi hF hD
      have hu := hi.upd
      have e58 : a.tmps[58]?.getD undef = .pointer (some ⟨w.heap.size, 1, none⟩) := (ev a 58).symm.trans (hD _ (Array.mem_of_getElem? (i := 0) rfl) rfl).1
      clear hF hD
      have hc := HC.out W hu
      go_simp
    · refine step_call rfl (fun _ _ => trivial) ?_
      intro a W hi hF hD
      have hu := hi.upd
      have e59 : a.tmps[59]?.getD undef = .int .i64 s := (ev a 59).symm.trans (hD _ (Array.mem_of_getElem? (i := 0) rfl) rfl).1
      clear hF hD
      have hc := HC.out W hu
      refine ⟨_, _, by (go_simp; first | done | rfl | exact ⟨rfl, rfl⟩), ?_⟩
      refine (Hws.out _).mono ?_
      rintro e w2 ⟨rfl, hu2⟩
      first | exact ⟨_, rfl, hu2, rfl⟩ | (cases hu2; exact ⟨_, rfl, Upd.refl _ _, rfl⟩)
    · refine step_is _ rfl ⟨_, rfl⟩ rfl (fun _ _ => trivial) ?_
      intro a W hi hF hD
      have hu := hi.upd
      have e57 : a.tmps[57]?.getD undef = .string (((⟨#[64, 2]⟩ : ByteArray) ++ wsz) ++ wt) := (ev a 57).symm.trans (hD _ (Array.mem_of_getElem? (i := 0) rfl) rfl).1
      have e60 : a.tmps[60]?.getD undef = .string ws := (ev a 60).symm.trans (hD _ (Array.mem_of_getElem? (i := 1) rfl) rfl).1
      clear hF hD
      have hc := HC.out W hu
      have := run_string_add_sum (P := Try.prog) W (((⟨#[64, 2]⟩ : ByteArray) ++ wsz) ++ wt) ws (by rw [ByteArray.size_append, ByteArray.size_append, zwsz, zwt, zws]; decide)
      go_simp
    · refine step_is _ rfl ⟨_, rfl⟩ rfl (fun _ _ => trivial) ?_
      intro a W hi hF hD
      have hu := hi.upd
      have e1 : a.tmps[1]?.getD undef = _ := (ev a 1).symm.trans (hF 1 (by kernel_rfl))
      clear hF hD
      have hc := HC.out W hu
      go_simp
    · refine step_is _ rfl ⟨_, rfl⟩ rfl (fun _ _ => trivial) ?_
      intro a W hi hF hD
      have hu := hi.upd
      have e62 : a.tmps[62]?.getD undef = .pointer (some ⟨w.heap.size, 5, none⟩) := (ev a 62).symm.trans (hD _ (Array.mem_of_getElem? (i := 0) rfl) rfl).1
      clear hF hD
      have hc := HC.out W hu
      go_simp
    · refine step_is _ rfl ⟨_, rfl⟩ rfl (fun _ _ => trivial) ?_
      intro a W hi hF hD
      have hu := hi.upd
      have e61 : a.tmps[61]?.getD undef = .string ((((⟨#[64, 2]⟩ : ByteArray) ++ wsz) ++ wt) ++ ws) := (ev a 61).symm.trans (hD _ (Array.mem_of_getElem? (i := 0) rfl) rfl).1
      have e63 : a.tmps[63]?.getD undef = .string b := (ev a 63).symm.trans (hD _ (Array.mem_of_getElem? (i := 1) rfl) rfl).1
      clear hF hD
      have hc := HC.out W hu
      have := run_string_add_sum (P := Try.prog) W ((((⟨#[64, 2]⟩ : ByteArray) ++ wsz) ++ wt) ++ ws) b (by simp only [ByteArray.size_append, zwsz, zwt, zws, show (⟨#[64, 2]⟩ : ByteArray).size = 2 from rfl]; omega)
      go_simp
    · refine step_is _ rfl ⟨_, rfl⟩ rfl (fun _ _ => trivial) ?_
      intro a W hi hF hD
      have hu := hi.upd
      have e64 : a.tmps[64]?.getD undef = .string (((((⟨#[64, 2]⟩ : ByteArray) ++ wsz) ++ wt) ++ ws) ++ b) := (ev a 64).symm.trans (hD _ (Array.mem_of_getElem? (i := 0) rfl) rfl).1
      clear hF hD
      have hc := HC.out W hu
      go_simp
    · refine step_is _ rfl ⟨_, rfl⟩ rfl (fun _ _ => trivial) ?_
      intro a W hi hF hD
      have hu := hi.upd
      clear hF hD
      have hc := HC.out W hu
      go_simp
  intro vals W hu hv
  have v0 : vals 0 = .pointer (some ⟨w.heap.size, 5, none⟩) := (hv 0 (by decide)).1
  have v1 : vals 1 = .string b := (hv 1 (by decide)).1
  have v2 : vals 2 = .int .i64 b.size := (hv 2 (by decide)).1
  have v3 : vals 3 = .int .i64 ((b.size : Int) + 8) := (hv 3 (by decide)).1
  have v4 : vals 4 = .string wsz := (hv 4 (by decide)).1
  have v5 : vals 5 = .string ((⟨#[64, 2]⟩ : ByteArray) ++ wsz) := (hv 5 (by decide)).1
  have v6 : vals 6 = .pointer (some ⟨w.heap.size, 0, none⟩) := (hv 6 (by decide)).1
  have v7 : vals 7 = .int .i64 t := (hv 7 (by decide)).1
  have v8 : vals 8 = .string wt := (hv 8 (by decide)).1
  have v9 : vals 9 = .string (((⟨#[64, 2]⟩ : ByteArray) ++ wsz) ++ wt) := (hv 9 (by decide)).1
  have v10 : vals 10 = .pointer (some ⟨w.heap.size, 1, none⟩) := (hv 10 (by decide)).1
  have v11 : vals 11 = .int .i64 s := (hv 11 (by decide)).1
  have v12 : vals 12 = .string ws := (hv 12 (by decide)).1
  have v13 : vals 13 = .string ((((⟨#[64, 2]⟩ : ByteArray) ++ wsz) ++ wt) ++ ws) := (hv 13 (by decide)).1
  have v14 : vals 14 = .pointer (some ⟨w.heap.size, 5, none⟩) := (hv 14 (by decide)).1
  have v15 : vals 15 = .string b := (hv 15 (by decide)).1
  have v16 : vals 16 = .string (((((⟨#[64, 2]⟩ : ByteArray) ++ wsz) ++ wt) ++ ws) ++ b) := (hv 16 (by decide)).1
  have v17 : vals 17 = .string (((((⟨#[64, 2]⟩ : ByteArray) ++ wsz) ++ wt) ++ ws) ++ b) := (hv 17 (by decide)).1
  have v18 : vals 18 = .int .i64 0 := (hv 18 (by decide)).1
  clear hv
  simp only [putAll, Act.put, Nat.zero_add, Nat.reduceAdd, v0, v1, v2, v3, v4, v5, v6, v7, v8, v9, v10, v11, v12, v13, v14, v15, v16, v17, v18, List.setIfInBounds_toArray, List.set_cons_zero, List.set_cons_succ]
  clear v0 v1 v2 v3 v4 v5 v6 v7 v8 v9 v10 v11 v12 v13 v14 v15 v16 v17 v18
  go_wp2_with fail
  go_ret2
  exact ⟨rfl, U0.out.trans hu⟩
theorem rputLoad_way (x : Wy) (d : ByteArray) (hx : x.ok) (hd : d.size ≤ maxLen) (w : World) :
    Calls Try.prog 37 #[(x.load d).agg] w fun e w' => e = .returned (.tuple #[.string (x.lay d).2.1, .int .i64 (x.lay d).2.2]) ∧ Upd [] w w' := by
  have h := Wy.load_put hx d
  have h1 := hx.next
  have h2 := hx.tunnel
  have h3 := hx.session
  have e1 : (x.lay d).2.1 = (x.load d).put.1 := by rw [h]
  have e2 : (x.lay d).2.2 = (x.load d).put.2 := by rw [h]
  rw [e1, e2]
  cases hq : x.seq with
  | true =>
    have e : x.load d = ⟨x.tunnel, x.session, true, x.next, 0, d⟩ := by simp [Wy.load, hq]
    rw [e]
    exact rputLoad_seq _ _ _ _ d ⟨by omega, by omega, h1, by omega⟩ hd w
  | false =>
    have e : x.load d = ⟨x.tunnel, x.session, false, 0, 0, d⟩ := by simp [Wy.load, hq]
    rw [e]
    exact rputLoad_plain _ _ d ⟨by omega, by omega⟩ hd w
end Go.Proofs.Yteflpekokgdllaa
