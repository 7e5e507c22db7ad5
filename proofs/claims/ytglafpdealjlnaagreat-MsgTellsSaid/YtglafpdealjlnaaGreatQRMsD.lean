/- WRITTEN by wip/gen/rmsd.py. The walks of the document's own PutLoad, GetLoad (chapter 19). -/
import Derived.Test.YtglafpdealjlnaaGreatQRMsA
import Derived.Test.YtglafpdealjlnaaGreatQMsgI
namespace Go.Proofs.YtglafpdealjlnaaGreat
open Go.RowKit
set_option linter.unusedSimpArgs false
set_option linter.unusedVariables false
set_option maxRecDepth 100000

theorem ld6 {W : World} {g : Nat} {a b c d e f : Value} (h : Blk W g 26 #[a, b, c, d, e, f]) :
    W.cell? ⟨g, 0, none⟩ = some a ∧ W.cell? ⟨g, 1, none⟩ = some b ∧ W.cell? ⟨g, 2, none⟩ = some c ∧ W.cell? ⟨g, 3, none⟩ = some d ∧ W.cell? ⟨g, 4, none⟩ = some e ∧ W.cell? ⟨g, 5, none⟩ = some f ∧
    W.frozen? ⟨g, 0, none⟩ = false ∧ W.frozen? ⟨g, 1, none⟩ = false ∧ W.frozen? ⟨g, 2, none⟩ = false ∧ W.frozen? ⟨g, 3, none⟩ = false ∧ W.frozen? ⟨g, 4, none⟩ = false ∧ W.frozen? ⟨g, 5, none⟩ = false ∧ g < W.heap.size :=
  ⟨h.cell 0, h.cell 1, h.cell 2, h.cell 3, h.cell 4, h.cell 5, h.frozen 0, h.frozen 1, h.frozen 2, h.frozen 3, h.frozen 4, h.frozen 5, h.lt⟩
theorem ldBytes_seq (t s ns nr : Int) (b : ByteArray) : (⟨#[72, 2]⟩ : ByteArray) ++ be 2 ((b.size : Int) + 12) ++ be 2 t ++ be 2 s ++ be 2 ns ++ be 2 nr ++ b = (⟨t, s, true, ns, nr, b⟩ : Ld).bytes := by
  have e : (strOfNums [72, 2] : ByteArray) = ⟨#[72, 2]⟩ := by decide
  rw [Ld.bytes, if_pos rfl, e, wordsOf_cons, wordsOf_cons, wordsOf_cons, wordsOf_cons, wordsOf_cons, wordsOf_nil]
  simp only [ByteArray.append_assoc]
  congr 6
theorem ldBytes_plain (t s ns nr : Int) (b : ByteArray) : (⟨#[64, 2]⟩ : ByteArray) ++ be 2 ((b.size : Int) + 8) ++ be 2 t ++ be 2 s ++ b = (⟨t, s, false, ns, nr, b⟩ : Ld).bytes := by
  have e : (strOfNums [64, 2] : ByteArray) = ⟨#[64, 2]⟩ := by decide
  rw [Ld.bytes, if_neg (by simp), e, wordsOf_cons, wordsOf_cons, wordsOf_cons, wordsOf_nil]
  simp only [ByteArray.append_assoc]
  congr 4
set_option maxHeartbeats 4000000 in
theorem rputLoad_any (l : Ld) (hb : l.data.size ≤ maxLen) (w : World) :
    Calls Tryz.prog 28 #[l.agg] w fun e w' => e = .returned (.tuple #[.string l.put.1, .int .i64 l.put.2]) ∧ Upd [] w w' := by
  obtain ⟨t, s, q, ns, nr, b⟩ := l
  dsimp only at hb
  simp only [maxLen] at hb
  obtain ⟨R, hR⟩ : ∃ R, (⟨t, s, q, ns, nr, b⟩ : Ld).put = R := ⟨_, rfl⟩
  rw [hR]
  have HR : Hid ((if (⟨t, s, q, ns, nr, b⟩ : Ld).bad = true then ((⟨#[]⟩ : ByteArray), (1 : Int)) else if 1460 < b.size then (⟨#[]⟩, 2) else ((⟨t, s, q, ns, nr, b⟩ : Ld).bytes, 0)) = R) := hR
  simp only [Ld.agg]
  clear hR
  have HBADE : Hid ((⟨t, s, q, ns, nr, b⟩ : Ld).bad = (overWord t || overWord s || overWord ns || overWord nr || (!q && (!decide (ns = 0) || !decide (nr = 0))))) := by
    show _ = _
    simp [Ld.bad, overWord, Bool.or_assoc]
  have B0 := Blk.new w 26 #[.int .i64 t, .int .i64 s, .bool q, .int .i64 ns, .int .i64 nr, .string b]
  have HU := Lib.hid ((Upd.refl [] w).alloc (.cells #[.int .i64 t, .int .i64 s, .bool q, .int .i64 ns, .int .i64 nr, .string b] 26))
  go_enter Tryz.func28, Tryz.ntmps28
  go_upto_region 1 with (fail)
  generalize w.alloc (.cells #[.int .i64 t, .int .i64 s, .bool q, .int .i64 ns, .int .i64 nr, .string b] 26) = w1 at *
  have HC := Lib.hid (fun W (hu : Upd [] w1 W) => ld6 (B0.upd hu (by simp)))
  have hn0 : ∀ x, overWord x = false → 0 ≤ x ∧ x < 65536 := fun x h => by simp [overWord] at h; omega
  have HN0 := Lib.hid hn0
  obtain ⟨c0, c1, c2, c3, c4, c5, -, -, -, -, -, -, hlt⟩ := HC.out w1 (Upd.refl _ _)
  clear hn0 B0
  have bad : (overWord t || overWord s || overWord ns || overWord nr || (!q && (!decide (ns = 0) || !decide (nr = 0)))) = true → R = (⟨#[]⟩, 1) := fun h => by
    have hr := HR.out
    rw [HBADE.out, h, if_pos rfl] at hr
    exact hr.symm
  have HBAD := Lib.hid bad
  clear bad
  cases o0 : overWord t
  rotate_left
  · have hr := HBAD.out (by simp [o0])
    subst hr
    have HW := Lib.hid o0
    clear o0 HR HBAD
    go_wp2_with fail
    refine (rword_any _ _).mono ?_
    rintro e w2 ⟨rfl, rfl⟩
    rw [HW.out]
    go_wp2_with fail
    go_ret2
    exact ⟨rfl, HU.out⟩
  have HW0 := Lib.hid o0
  clear o0
  cases o1 : overWord s
  rotate_left
  · have hr := HBAD.out (by simp [o1])
    subst hr
    have HW := Lib.hid o1
    clear o1 HR HBAD
    go_wp2_with fail
    refine (rword_any _ _).mono ?_
    rintro e w2 ⟨rfl, rfl⟩
    rw [HW0.out]
    go_wp2_with fail
    refine (rword_any _ _).mono ?_
    rintro e w2 ⟨rfl, rfl⟩
    rw [HW.out]
    go_wp2_with fail
    go_ret2
    exact ⟨rfl, HU.out⟩
  have HW1 := Lib.hid o1
  clear o1
  cases o2 : overWord ns
  rotate_left
  · have hr := HBAD.out (by simp [o2])
    subst hr
    have HW := Lib.hid o2
    clear o2 HR HBAD
    go_wp2_with fail
    refine (rword_any _ _).mono ?_
    rintro e w2 ⟨rfl, rfl⟩
    rw [HW0.out]
    go_wp2_with fail
    refine (rword_any _ _).mono ?_
    rintro e w2 ⟨rfl, rfl⟩
    rw [HW1.out]
    go_wp2_with fail
    refine (rword_any _ _).mono ?_
    rintro e w2 ⟨rfl, rfl⟩
    rw [HW.out]
    go_wp2_with fail
    go_ret2
    exact ⟨rfl, HU.out⟩
  have HW2 := Lib.hid o2
  clear o2
  cases o3 : overWord nr
  rotate_left
  · have hr := HBAD.out (by simp [o3])
    subst hr
    have HW := Lib.hid o3
    clear o3 HR HBAD
    go_wp2_with fail
    refine (rword_any _ _).mono ?_
    rintro e w2 ⟨rfl, rfl⟩
    rw [HW0.out]
    go_wp2_with fail
    refine (rword_any _ _).mono ?_
    rintro e w2 ⟨rfl, rfl⟩
    rw [HW1.out]
    go_wp2_with fail
    refine (rword_any _ _).mono ?_
    rintro e w2 ⟨rfl, rfl⟩
    rw [HW2.out]
    go_wp2_with fail
    refine (rword_any _ _).mono ?_
    rintro e w2 ⟨rfl, rfl⟩
    rw [HW.out]
    go_wp2_with fail
    go_ret2
    exact ⟨rfl, HU.out⟩
  have HW3 := Lib.hid o3
  clear o3
  by_cases j1 : q = false ∧ (ns ≠ 0 ∨ nr ≠ 0)
  · obtain ⟨rfl, j2⟩ := j1
    have hr := HBAD.out (by rcases j2 with h | h <;> simp [h])
    subst hr
    clear HR HBAD HBADE
    by_cases j3 : ns = 0
    · have j4 : nr ≠ 0 := by rcases j2 with h | h; exact absurd j3 h; exact h
      have u1 : (ns != 0) = false := by simpa using j3
      have u2 : (nr != 0) = true := by simpa using j4
      clear j2 j3 j4
      go_wp2_with fail
      refine (rword_any _ _).mono ?_
      rintro e w2 ⟨rfl, rfl⟩
      rw [HW0.out]
      go_wp2_with fail
      refine (rword_any _ _).mono ?_
      rintro e w2 ⟨rfl, rfl⟩
      rw [HW1.out]
      go_wp2_with fail
      refine (rword_any _ _).mono ?_
      rintro e w2 ⟨rfl, rfl⟩
      rw [HW2.out]
      go_wp2_with fail
      refine (rword_any _ _).mono ?_
      rintro e w2 ⟨rfl, rfl⟩
      rw [HW3.out]
      go_wp2_with fail
      go_ret2
      exact ⟨rfl, HU.out⟩
    · have u1 : (ns != 0) = true := by simpa using j3
      clear j2 j3
      go_wp2_with fail
      refine (rword_any _ _).mono ?_
      rintro e w2 ⟨rfl, rfl⟩
      rw [HW0.out]
      go_wp2_with fail
      refine (rword_any _ _).mono ?_
      rintro e w2 ⟨rfl, rfl⟩
      rw [HW1.out]
      go_wp2_with fail
      refine (rword_any _ _).mono ?_
      rintro e w2 ⟨rfl, rfl⟩
      rw [HW2.out]
      go_wp2_with fail
      refine (rword_any _ _).mono ?_
      rintro e w2 ⟨rfl, rfl⟩
      rw [HW3.out]
      go_wp2_with fail
      go_ret2
      exact ⟨rfl, HU.out⟩
  have HR1 : Hid ((if 1460 < b.size then (⟨#[]⟩, 2) else ((⟨t, s, q, ns, nr, b⟩ : Ld).bytes, 0)) = R) := by
    have hr := HR.out
    rw [HBADE.out, HW0.out, HW1.out, HW2.out, HW3.out, if_neg] at hr
    · exact hr
    · intro h
      refine j1 ?_
      simp at h
      exact h
  have HQ : Hid (q = false → ns = 0 ∧ nr = 0) := fun h => by
    refine ⟨Classical.not_not.1 fun h2 => j1 ⟨h, .inl h2⟩, Classical.not_not.1 fun h2 => j1 ⟨h, .inr h2⟩⟩
  clear HR HBAD HBADE j1
  have h0 := HN0.out t HW0.out
  have h1 := HN0.out s HW1.out
  have h2 := HN0.out ns HW2.out
  have h3 := HN0.out nr HW3.out
  cases q
  · have hq := HQ.out rfl
    obtain ⟨rfl, rfl⟩ := hq
    clear HQ
    by_cases j2 : 1460 < b.size
    · have hr := HR1.out
      rw [if_pos j2] at hr
      subst hr
      have j2' : (1460 : Int) < b.size := by omega
      clear HR1
      go_wp2_with fail
      refine (rword_any _ _).mono ?_
      rintro e w2 ⟨rfl, rfl⟩
      rw [HW0.out]
      go_wp2_with fail
      refine (rword_any _ _).mono ?_
      rintro e w2 ⟨rfl, rfl⟩
      rw [HW1.out]
      go_wp2_with fail
      refine (rword_any _ _).mono ?_
      rintro e w2 ⟨rfl, rfl⟩
      rw [HW2.out]
      go_wp2_with fail
      refine (rword_any _ _).mono ?_
      rintro e w2 ⟨rfl, rfl⟩
      rw [HW3.out]
      go_wp2_with fail
      go_ret2
      exact ⟨rfl, HU.out⟩
    have hr := HR1.out
    rw [if_neg j2] at hr
    have j2' : ¬ (1460 : Int) < b.size := by omega
    have HE := Lib.hid (ldBytes_plain t s 0 0 b)
    generalize (⟨t, s, false, 0, 0, b⟩ : Ld).bytes = Y at *
    subst hr
    have H4 := Lib.hid (rtwo_any ((b.size : Int) + 8) (by omega))
    have z4 := be_size 2 ((b.size : Int) + 8)
    generalize be 2 ((b.size : Int) + 8) = y4 at *
    have H0 := Lib.hid (rtwo_any t (by omega))
    have z0 := be_size 2 t
    generalize be 2 t = y0 at *
    have H1 := Lib.hid (rtwo_any s (by omega))
    have z1 := be_size 2 s
    generalize be 2 s = y1 at *
    have hw12 : IntKind.i64.wrap ((b.size : Int) + 8) = (b.size : Int) + 8 := IntWalk.i64_in _ (by omega)
    have z5 : (⟨#[64, 2]⟩ : ByteArray).size = 2 := rfl
    go_wp2_with fail
    refine (rword_any _ _).mono ?_
    rintro e w2 ⟨rfl, rfl⟩
    rw [HW0.out]
    go_wp2_with fail
    refine (rword_any _ _).mono ?_
    rintro e w2 ⟨rfl, rfl⟩
    rw [HW1.out]
    go_wp2_with fail
    refine (rword_any _ _).mono ?_
    rintro e w2 ⟨rfl, rfl⟩
    rw [HW2.out]
    go_wp2_with fail
    refine (rword_any _ _).mono ?_
    rintro e w2 ⟨rfl, rfl⟩
    rw [HW3.out]
    go_wp2_with fail
    refine wp_region_facts (.pure) (trivial) [.is (.pointer (some ⟨w.heap.size, 5, none⟩)), .is (.string b), .is (.int .i64 b.size), .is (.int .i64 ((b.size : Int) + 8)), .is (.string y4), .is (.string (⟨#[64, 2]⟩ ++ y4)), .is (.pointer (some ⟨w.heap.size, 0, none⟩)), .is (.int .i64 t), .is (.string y0), .is (.string (⟨#[64, 2]⟩ ++ y4 ++ y0)), .is (.pointer (some ⟨w.heap.size, 1, none⟩)), .is (.int .i64 s), .is (.string y1), .is (.string (⟨#[64, 2]⟩ ++ y4 ++ y0 ++ y1)), .is (.pointer (some ⟨w.heap.size, 5, none⟩)), .is (.string b), .is (.string Y), .is (.string Y), .is (.int .i64 0)] (by kernel_rfl) (by kernel_rfl) (by kernel_rfl) (by kernel_rfl) ?_ ?_
    · refine Steps.cons ?_ (Steps.cons ?_ (Steps.cons ?_ (Steps.cons ?_ (Steps.cons ?_ (Steps.cons ?_ (Steps.cons ?_ (Steps.cons ?_ (Steps.cons ?_ (Steps.cons ?_ (Steps.cons ?_ (Steps.cons ?_ (Steps.cons ?_ (Steps.cons ?_ (Steps.cons ?_ (Steps.cons ?_ (Steps.cons ?_ (Steps.cons ?_ (Steps.cons ?_ Steps.nil))))))))))))))))))
      · refine step_is _ rfl ⟨_, rfl⟩ rfl (fun _ _ => trivial) ?_
        intro a W hi hF hD
        have hu := hi.upd
        have e1 : a.tmps[1]?.getD undef = _ := (ev a 1).symm.trans (hF 1 (by kernel_rfl))
        clear hF hD
        obtain ⟨c0, c1, c2, c3, c4, c5, -⟩ := HC.out W hu
        go_simp
      · refine step_is _ rfl ⟨_, rfl⟩ rfl (fun _ _ => trivial) ?_
        intro a W hi hF hD
        have hu := hi.upd
        have e48 : a.tmps[48]?.getD undef = .pointer (some ⟨w.heap.size, 5, none⟩) := (ev a 48).symm.trans (hD _ (Array.mem_of_getElem? (i := 0) rfl) rfl).1
        clear hF hD
        obtain ⟨c0, c1, c2, c3, c4, c5, -⟩ := HC.out W hu
        go_simp
      · refine step_is _ rfl ⟨_, rfl⟩ rfl (fun _ _ => trivial) ?_
        intro a W hi hF hD
        have hu := hi.upd
        have e49 : a.tmps[49]?.getD undef = .string b := (ev a 49).symm.trans (hD _ (Array.mem_of_getElem? (i := 0) rfl) rfl).1
        clear hF hD
        obtain ⟨c0, c1, c2, c3, c4, c5, -⟩ := HC.out W hu
        go_simp
      · refine step_is _ rfl ⟨_, rfl⟩ rfl (fun _ _ => trivial) ?_
        intro a W hi hF hD
        have hu := hi.upd
        have e50 : a.tmps[50]?.getD undef = .int .i64 b.size := (ev a 50).symm.trans (hD _ (Array.mem_of_getElem? (i := 0) rfl) rfl).1
        clear hF hD
        obtain ⟨c0, c1, c2, c3, c4, c5, -⟩ := HC.out W hu
        go_simp
      · refine step_call rfl (fun _ _ => trivial) ?_
        intro a W hi hF hD
        have hu := hi.upd
        have e51 : a.tmps[51]?.getD undef = .int .i64 ((b.size : Int) + 8) := (ev a 51).symm.trans (hD _ (Array.mem_of_getElem? (i := 0) rfl) rfl).1
        clear hF hD
        obtain ⟨c0, c1, c2, c3, c4, c5, -⟩ := HC.out W hu
        refine ⟨_, _, by (go_simp; first | done | rfl | exact ⟨rfl, rfl⟩), ?_⟩
        refine (H4.out _).mono ?_
        rintro e w2 ⟨rfl, hu2⟩
        first | exact ⟨_, rfl, hu2, rfl⟩ | (cases hu2; exact ⟨_, rfl, Upd.refl _ _, rfl⟩)
      · refine step_is _ rfl ⟨_, rfl⟩ rfl (fun _ _ => trivial) ?_
        intro a W hi hF hD
        have hu := hi.upd
        have e52 : a.tmps[52]?.getD undef = .string y4 := (ev a 52).symm.trans (hD _ (Array.mem_of_getElem? (i := 0) rfl) rfl).1
        clear hF hD
        obtain ⟨c0, c1, c2, c3, c4, c5, -⟩ := HC.out W hu
        have := run_string_add_sum (P := Tryz.prog) W ⟨#[64, 2]⟩ y4 (by omega)
        go_simp
      · refine step_is _ rfl ⟨_, rfl⟩ rfl (fun _ _ => trivial) ?_
        intro a W hi hF hD
        have hu := hi.upd
        have e1 : a.tmps[1]?.getD undef = _ := (ev a 1).symm.trans (hF 1 (by kernel_rfl))
        clear hF hD
        obtain ⟨c0, c1, c2, c3, c4, c5, -⟩ := HC.out W hu
        go_simp
      · refine step_is _ rfl ⟨_, rfl⟩ rfl (fun _ _ => trivial) ?_
        intro a W hi hF hD
        have hu := hi.upd
        have e54 : a.tmps[54]?.getD undef = .pointer (some ⟨w.heap.size, 0, none⟩) := (ev a 54).symm.trans (hD _ (Array.mem_of_getElem? (i := 0) rfl) rfl).1
        clear hF hD
        obtain ⟨c0, c1, c2, c3, c4, c5, -⟩ := HC.out W hu
        go_simp
      · refine step_call rfl (fun _ _ => trivial) ?_
        intro a W hi hF hD
        have hu := hi.upd
        have e55 : a.tmps[55]?.getD undef = .int .i64 t := (ev a 55).symm.trans (hD _ (Array.mem_of_getElem? (i := 0) rfl) rfl).1
        clear hF hD
        obtain ⟨c0, c1, c2, c3, c4, c5, -⟩ := HC.out W hu
        refine ⟨_, _, by (go_simp; first | done | rfl | exact ⟨rfl, rfl⟩), ?_⟩
        refine (H0.out _).mono ?_
        rintro e w2 ⟨rfl, hu2⟩
        first | exact ⟨_, rfl, hu2, rfl⟩ | (cases hu2; exact ⟨_, rfl, Upd.refl _ _, rfl⟩)
      · refine step_is _ rfl ⟨_, rfl⟩ rfl (fun _ _ => trivial) ?_
        intro a W hi hF hD
        have hu := hi.upd
        have e53 : a.tmps[53]?.getD undef = .string (⟨#[64, 2]⟩ ++ y4) := (ev a 53).symm.trans (hD _ (Array.mem_of_getElem? (i := 0) rfl) rfl).1
        have e56 : a.tmps[56]?.getD undef = .string y0 := (ev a 56).symm.trans (hD _ (Array.mem_of_getElem? (i := 1) rfl) rfl).1
        clear hF hD
        obtain ⟨c0, c1, c2, c3, c4, c5, -⟩ := HC.out W hu
        have := run_string_add_sum (P := Tryz.prog) W (⟨#[64, 2]⟩ ++ y4) y0 (by simp only [ByteArray.size_append]; omega)
        go_simp
      · refine step_is _ rfl ⟨_, rfl⟩ rfl (fun _ _ => trivial) ?_
        intro a W hi hF hD
        have hu := hi.upd
        have e1 : a.tmps[1]?.getD undef = _ := (ev a 1).symm.trans (hF 1 (by kernel_rfl))
        clear hF hD
        obtain ⟨c0, c1, c2, c3, c4, c5, -⟩ := HC.out W hu
        go_simp
      · refine step_is _ rfl ⟨_, rfl⟩ rfl (fun _ _ => trivial) ?_
        intro a W hi hF hD
        have hu := hi.upd
        have e58 : a.tmps[58]?.getD undef = .pointer (some ⟨w.heap.size, 1, none⟩) := (ev a 58).symm.trans (hD _ (Array.mem_of_getElem? (i := 0) rfl) rfl).1
        clear hF hD
        obtain ⟨c0, c1, c2, c3, c4, c5, -⟩ := HC.out W hu
        go_simp
      · refine step_call rfl (fun _ _ => trivial) ?_
        intro a W hi hF hD
        have hu := hi.upd
        have e59 : a.tmps[59]?.getD undef = .int .i64 s := (ev a 59).symm.trans (hD _ (Array.mem_of_getElem? (i := 0) rfl) rfl).1
        clear hF hD
        obtain ⟨c0, c1, c2, c3, c4, c5, -⟩ := HC.out W hu
        refine ⟨_, _, by (go_simp; first | done | rfl | exact ⟨rfl, rfl⟩), ?_⟩
        refine (H1.out _).mono ?_
        rintro e w2 ⟨rfl, hu2⟩
        first | exact ⟨_, rfl, hu2, rfl⟩ | (cases hu2; exact ⟨_, rfl, Upd.refl _ _, rfl⟩)
      · refine step_is _ rfl ⟨_, rfl⟩ rfl (fun _ _ => trivial) ?_
        intro a W hi hF hD
        have hu := hi.upd
        have e57 : a.tmps[57]?.getD undef = .string (⟨#[64, 2]⟩ ++ y4 ++ y0) := (ev a 57).symm.trans (hD _ (Array.mem_of_getElem? (i := 0) rfl) rfl).1
        have e60 : a.tmps[60]?.getD undef = .string y1 := (ev a 60).symm.trans (hD _ (Array.mem_of_getElem? (i := 1) rfl) rfl).1
        clear hF hD
        obtain ⟨c0, c1, c2, c3, c4, c5, -⟩ := HC.out W hu
        have := run_string_add_sum (P := Tryz.prog) W (⟨#[64, 2]⟩ ++ y4 ++ y0) y1 (by simp only [ByteArray.size_append]; omega)
        go_simp
      · refine step_is _ rfl ⟨_, rfl⟩ rfl (fun _ _ => trivial) ?_
        intro a W hi hF hD
        have hu := hi.upd
        have e1 : a.tmps[1]?.getD undef = _ := (ev a 1).symm.trans (hF 1 (by kernel_rfl))
        clear hF hD
        obtain ⟨c0, c1, c2, c3, c4, c5, -⟩ := HC.out W hu
        go_simp
      · refine step_is _ rfl ⟨_, rfl⟩ rfl (fun _ _ => trivial) ?_
        intro a W hi hF hD
        have hu := hi.upd
        have e62 : a.tmps[62]?.getD undef = .pointer (some ⟨w.heap.size, 5, none⟩) := (ev a 62).symm.trans (hD _ (Array.mem_of_getElem? (i := 0) rfl) rfl).1
        clear hF hD
        obtain ⟨c0, c1, c2, c3, c4, c5, -⟩ := HC.out W hu
        go_simp
      · refine step_is _ rfl ⟨_, rfl⟩ rfl (fun _ _ => trivial) ?_
        intro a W hi hF hD
        have hu := hi.upd
        have e61 : a.tmps[61]?.getD undef = .string (⟨#[64, 2]⟩ ++ y4 ++ y0 ++ y1) := (ev a 61).symm.trans (hD _ (Array.mem_of_getElem? (i := 0) rfl) rfl).1
        have e63 : a.tmps[63]?.getD undef = .string b := (ev a 63).symm.trans (hD _ (Array.mem_of_getElem? (i := 1) rfl) rfl).1
        clear hF hD
        obtain ⟨c0, c1, c2, c3, c4, c5, -⟩ := HC.out W hu
        have := run_string_add_sum (P := Tryz.prog) W (⟨#[64, 2]⟩ ++ y4 ++ y0 ++ y1) b (by simp only [ByteArray.size_append]; omega)
        rw [HE.out] at this
        go_simp
      · refine step_is _ rfl ⟨_, rfl⟩ rfl (fun _ _ => trivial) ?_
        intro a W hi hF hD
        have hu := hi.upd
        have e64 : a.tmps[64]?.getD undef = .string Y := (ev a 64).symm.trans (hD _ (Array.mem_of_getElem? (i := 0) rfl) rfl).1
        clear hF hD
        obtain ⟨c0, c1, c2, c3, c4, c5, -⟩ := HC.out W hu
        go_simp
      · refine step_is _ rfl ⟨_, rfl⟩ rfl (fun _ _ => trivial) ?_
        intro a W hi hF hD
        have hu := hi.upd
        clear hF hD
        obtain ⟨c0, c1, c2, c3, c4, c5, -⟩ := HC.out W hu
        go_simp
    intro vals W hu hv
    have v0 : vals 0 = .pointer (some ⟨w.heap.size, 5, none⟩) := (hv 0 (by decide)).1
    have v1 : vals 1 = .string b := (hv 1 (by decide)).1
    have v2 : vals 2 = .int .i64 b.size := (hv 2 (by decide)).1
    have v3 : vals 3 = .int .i64 ((b.size : Int) + 8) := (hv 3 (by decide)).1
    have v4 : vals 4 = .string y4 := (hv 4 (by decide)).1
    have v5 : vals 5 = .string (⟨#[64, 2]⟩ ++ y4) := (hv 5 (by decide)).1
    have v6 : vals 6 = .pointer (some ⟨w.heap.size, 0, none⟩) := (hv 6 (by decide)).1
    have v7 : vals 7 = .int .i64 t := (hv 7 (by decide)).1
    have v8 : vals 8 = .string y0 := (hv 8 (by decide)).1
    have v9 : vals 9 = .string (⟨#[64, 2]⟩ ++ y4 ++ y0) := (hv 9 (by decide)).1
    have v10 : vals 10 = .pointer (some ⟨w.heap.size, 1, none⟩) := (hv 10 (by decide)).1
    have v11 : vals 11 = .int .i64 s := (hv 11 (by decide)).1
    have v12 : vals 12 = .string y1 := (hv 12 (by decide)).1
    have v13 : vals 13 = .string (⟨#[64, 2]⟩ ++ y4 ++ y0 ++ y1) := (hv 13 (by decide)).1
    have v14 : vals 14 = .pointer (some ⟨w.heap.size, 5, none⟩) := (hv 14 (by decide)).1
    have v15 : vals 15 = .string b := (hv 15 (by decide)).1
    have v16 : vals 16 = .string Y := (hv 16 (by decide)).1
    have v17 : vals 17 = .string Y := (hv 17 (by decide)).1
    have v18 : vals 18 = .int .i64 0 := (hv 18 (by decide)).1
    clear hv
    simp only [putAll, Act.put, Nat.zero_add, Nat.reduceAdd, v0, v1, v2, v3, v4, v5, v6, v7, v8, v9, v10, v11, v12, v13, v14, v15, v16, v17, v18, List.setIfInBounds_toArray, List.set_cons_zero, List.set_cons_succ]
    clear v0 v1 v2 v3 v4 v5 v6 v7 v8 v9 v10 v11 v12 v13 v14 v15 v16 v17 v18
    go_wp2_with fail
    go_ret2
    exact ⟨rfl, HU.out.trans hu⟩
  · clear HQ
    by_cases j2 : 1460 < b.size
    · have hr := HR1.out
      rw [if_pos j2] at hr
      subst hr
      have j2' : (1460 : Int) < b.size := by omega
      clear HR1
      go_wp2_with fail
      refine (rword_any _ _).mono ?_
      rintro e w2 ⟨rfl, rfl⟩
      rw [HW0.out]
      go_wp2_with fail
      refine (rword_any _ _).mono ?_
      rintro e w2 ⟨rfl, rfl⟩
      rw [HW1.out]
      go_wp2_with fail
      refine (rword_any _ _).mono ?_
      rintro e w2 ⟨rfl, rfl⟩
      rw [HW2.out]
      go_wp2_with fail
      refine (rword_any _ _).mono ?_
      rintro e w2 ⟨rfl, rfl⟩
      rw [HW3.out]
      go_wp2_with fail
      go_ret2
      exact ⟨rfl, HU.out⟩
    have hr := HR1.out
    rw [if_neg j2] at hr
    have j2' : ¬ (1460 : Int) < b.size := by omega
    have HE := Lib.hid (ldBytes_seq t s ns nr b)
    generalize (⟨t, s, true, ns, nr, b⟩ : Ld).bytes = Y at *
    subst hr
    have H4 := Lib.hid (rtwo_any ((b.size : Int) + 12) (by omega))
    have z4 := be_size 2 ((b.size : Int) + 12)
    generalize be 2 ((b.size : Int) + 12) = y4 at *
    have H0 := Lib.hid (rtwo_any t (by omega))
    have z0 := be_size 2 t
    generalize be 2 t = y0 at *
    have H1 := Lib.hid (rtwo_any s (by omega))
    have z1 := be_size 2 s
    generalize be 2 s = y1 at *
    have H2 := Lib.hid (rtwo_any ns (by omega))
    have z2 := be_size 2 ns
    generalize be 2 ns = y2 at *
    have H3 := Lib.hid (rtwo_any nr (by omega))
    have z3 := be_size 2 nr
    generalize be 2 nr = y3 at *
    have hw12 : IntKind.i64.wrap ((b.size : Int) + 12) = (b.size : Int) + 12 := IntWalk.i64_in _ (by omega)
    have z5 : (⟨#[72, 2]⟩ : ByteArray).size = 2 := rfl
    go_wp2_with fail
    refine (rword_any _ _).mono ?_
    rintro e w2 ⟨rfl, rfl⟩
    rw [HW0.out]
    go_wp2_with fail
    refine (rword_any _ _).mono ?_
    rintro e w2 ⟨rfl, rfl⟩
    rw [HW1.out]
    go_wp2_with fail
    refine (rword_any _ _).mono ?_
    rintro e w2 ⟨rfl, rfl⟩
    rw [HW2.out]
    go_wp2_with fail
    refine (rword_any _ _).mono ?_
    rintro e w2 ⟨rfl, rfl⟩
    rw [HW3.out]
    go_wp2_with fail
    refine wp_region_facts (.pure) (trivial) [.is (.pointer (some ⟨w.heap.size, 5, none⟩)), .is (.string b), .is (.int .i64 b.size), .is (.int .i64 ((b.size : Int) + 12)), .is (.string y4), .is (.string (⟨#[72, 2]⟩ ++ y4)), .is (.pointer (some ⟨w.heap.size, 0, none⟩)), .is (.int .i64 t), .is (.string y0), .is (.string (⟨#[72, 2]⟩ ++ y4 ++ y0)), .is (.pointer (some ⟨w.heap.size, 1, none⟩)), .is (.int .i64 s), .is (.string y1), .is (.string (⟨#[72, 2]⟩ ++ y4 ++ y0 ++ y1)), .is (.pointer (some ⟨w.heap.size, 3, none⟩)), .is (.int .i64 ns), .is (.string y2), .is (.string (⟨#[72, 2]⟩ ++ y4 ++ y0 ++ y1 ++ y2)), .is (.pointer (some ⟨w.heap.size, 4, none⟩)), .is (.int .i64 nr), .is (.string y3), .is (.string (⟨#[72, 2]⟩ ++ y4 ++ y0 ++ y1 ++ y2 ++ y3)), .is (.pointer (some ⟨w.heap.size, 5, none⟩)), .is (.string b), .is (.string Y), .is (.string Y), .is (.int .i64 0)] (by kernel_rfl) (by kernel_rfl) (by kernel_rfl) (by kernel_rfl) ?_ ?_
    · refine Steps.cons ?_ (Steps.cons ?_ (Steps.cons ?_ (Steps.cons ?_ (Steps.cons ?_ (Steps.cons ?_ (Steps.cons ?_ (Steps.cons ?_ (Steps.cons ?_ (Steps.cons ?_ (Steps.cons ?_ (Steps.cons ?_ (Steps.cons ?_ (Steps.cons ?_ (Steps.cons ?_ (Steps.cons ?_ (Steps.cons ?_ (Steps.cons ?_ (Steps.cons ?_ (Steps.cons ?_ (Steps.cons ?_ (Steps.cons ?_ (Steps.cons ?_ (Steps.cons ?_ (Steps.cons ?_ (Steps.cons ?_ (Steps.cons ?_ Steps.nil))))))))))))))))))))))))))
      · refine step_is _ rfl ⟨_, rfl⟩ rfl (fun _ _ => trivial) ?_
        intro a W hi hF hD
        have hu := hi.upd
        have e1 : a.tmps[1]?.getD undef = _ := (ev a 1).symm.trans (hF 1 (by kernel_rfl))
        clear hF hD
        obtain ⟨c0, c1, c2, c3, c4, c5, -⟩ := HC.out W hu
        go_simp
      · refine step_is _ rfl ⟨_, rfl⟩ rfl (fun _ _ => trivial) ?_
        intro a W hi hF hD
        have hu := hi.upd
        have e65 : a.tmps[65]?.getD undef = .pointer (some ⟨w.heap.size, 5, none⟩) := (ev a 65).symm.trans (hD _ (Array.mem_of_getElem? (i := 0) rfl) rfl).1
        clear hF hD
        obtain ⟨c0, c1, c2, c3, c4, c5, -⟩ := HC.out W hu
        go_simp
      · refine step_is _ rfl ⟨_, rfl⟩ rfl (fun _ _ => trivial) ?_
        intro a W hi hF hD
        have hu := hi.upd
        have e66 : a.tmps[66]?.getD undef = .string b := (ev a 66).symm.trans (hD _ (Array.mem_of_getElem? (i := 0) rfl) rfl).1
        clear hF hD
        obtain ⟨c0, c1, c2, c3, c4, c5, -⟩ := HC.out W hu
        go_simp
      · refine step_is _ rfl ⟨_, rfl⟩ rfl (fun _ _ => trivial) ?_
        intro a W hi hF hD
        have hu := hi.upd
        have e67 : a.tmps[67]?.getD undef = .int .i64 b.size := (ev a 67).symm.trans (hD _ (Array.mem_of_getElem? (i := 0) rfl) rfl).1
        clear hF hD
        obtain ⟨c0, c1, c2, c3, c4, c5, -⟩ := HC.out W hu
        go_simp
      · refine step_call rfl (fun _ _ => trivial) ?_
        intro a W hi hF hD
        have hu := hi.upd
        have e68 : a.tmps[68]?.getD undef = .int .i64 ((b.size : Int) + 12) := (ev a 68).symm.trans (hD _ (Array.mem_of_getElem? (i := 0) rfl) rfl).1
        clear hF hD
        obtain ⟨c0, c1, c2, c3, c4, c5, -⟩ := HC.out W hu
        refine ⟨_, _, by (go_simp; first | done | rfl | exact ⟨rfl, rfl⟩), ?_⟩
        refine (H4.out _).mono ?_
        rintro e w2 ⟨rfl, hu2⟩
        first | exact ⟨_, rfl, hu2, rfl⟩ | (cases hu2; exact ⟨_, rfl, Upd.refl _ _, rfl⟩)
      · refine step_is _ rfl ⟨_, rfl⟩ rfl (fun _ _ => trivial) ?_
        intro a W hi hF hD
        have hu := hi.upd
        have e69 : a.tmps[69]?.getD undef = .string y4 := (ev a 69).symm.trans (hD _ (Array.mem_of_getElem? (i := 0) rfl) rfl).1
        clear hF hD
        obtain ⟨c0, c1, c2, c3, c4, c5, -⟩ := HC.out W hu
        have := run_string_add_sum (P := Tryz.prog) W ⟨#[72, 2]⟩ y4 (by omega)
        go_simp
      · refine step_is _ rfl ⟨_, rfl⟩ rfl (fun _ _ => trivial) ?_
        intro a W hi hF hD
        have hu := hi.upd
        have e1 : a.tmps[1]?.getD undef = _ := (ev a 1).symm.trans (hF 1 (by kernel_rfl))
        clear hF hD
        obtain ⟨c0, c1, c2, c3, c4, c5, -⟩ := HC.out W hu
        go_simp
      · refine step_is _ rfl ⟨_, rfl⟩ rfl (fun _ _ => trivial) ?_
        intro a W hi hF hD
        have hu := hi.upd
        have e71 : a.tmps[71]?.getD undef = .pointer (some ⟨w.heap.size, 0, none⟩) := (ev a 71).symm.trans (hD _ (Array.mem_of_getElem? (i := 0) rfl) rfl).1
        clear hF hD
        obtain ⟨c0, c1, c2, c3, c4, c5, -⟩ := HC.out W hu
        go_simp
      · refine step_call rfl (fun _ _ => trivial) ?_
        intro a W hi hF hD
        have hu := hi.upd
        have e72 : a.tmps[72]?.getD undef = .int .i64 t := (ev a 72).symm.trans (hD _ (Array.mem_of_getElem? (i := 0) rfl) rfl).1
        clear hF hD
        obtain ⟨c0, c1, c2, c3, c4, c5, -⟩ := HC.out W hu
        refine ⟨_, _, by (go_simp; first | done | rfl | exact ⟨rfl, rfl⟩), ?_⟩
        refine (H0.out _).mono ?_
        rintro e w2 ⟨rfl, hu2⟩
        first | exact ⟨_, rfl, hu2, rfl⟩ | (cases hu2; exact ⟨_, rfl, Upd.refl _ _, rfl⟩)
      · refine step_is _ rfl ⟨_, rfl⟩ rfl (fun _ _ => trivial) ?_
        intro a W hi hF hD
        have hu := hi.upd
        have e70 : a.tmps[70]?.getD undef = .string (⟨#[72, 2]⟩ ++ y4) := (ev a 70).symm.trans (hD _ (Array.mem_of_getElem? (i := 0) rfl) rfl).1
        have e73 : a.tmps[73]?.getD undef = .string y0 := (ev a 73).symm.trans (hD _ (Array.mem_of_getElem? (i := 1) rfl) rfl).1
        clear hF hD
        obtain ⟨c0, c1, c2, c3, c4, c5, -⟩ := HC.out W hu
        have := run_string_add_sum (P := Tryz.prog) W (⟨#[72, 2]⟩ ++ y4) y0 (by simp only [ByteArray.size_append]; omega)
        go_simp
      · refine step_is _ rfl ⟨_, rfl⟩ rfl (fun _ _ => trivial) ?_
        intro a W hi hF hD
        have hu := hi.upd
        have e1 : a.tmps[1]?.getD undef = _ := (ev a 1).symm.trans (hF 1 (by kernel_rfl))
        clear hF hD
        obtain ⟨c0, c1, c2, c3, c4, c5, -⟩ := HC.out W hu
        go_simp
      · refine step_is _ rfl ⟨_, rfl⟩ rfl (fun _ _ => trivial) ?_
        intro a W hi hF hD
        have hu := hi.upd
        have e75 : a.tmps[75]?.getD undef = .pointer (some ⟨w.heap.size, 1, none⟩) := (ev a 75).symm.trans (hD _ (Array.mem_of_getElem? (i := 0) rfl) rfl).1
        clear hF hD
        obtain ⟨c0, c1, c2, c3, c4, c5, -⟩ := HC.out W hu
        go_simp
      · refine step_call rfl (fun _ _ => trivial) ?_
        intro a W hi hF hD
        have hu := hi.upd
        have e76 : a.tmps[76]?.getD undef = .int .i64 s := (ev a 76).symm.trans (hD _ (Array.mem_of_getElem? (i := 0) rfl) rfl).1
        clear hF hD
        obtain ⟨c0, c1, c2, c3, c4, c5, -⟩ := HC.out W hu
        refine ⟨_, _, by (go_simp; first | done | rfl | exact ⟨rfl, rfl⟩), ?_⟩
        refine (H1.out _).mono ?_
        rintro e w2 ⟨rfl, hu2⟩
        first | exact ⟨_, rfl, hu2, rfl⟩ | (cases hu2; exact ⟨_, rfl, Upd.refl _ _, rfl⟩)
      · refine step_is _ rfl ⟨_, rfl⟩ rfl (fun _ _ => trivial) ?_
        intro a W hi hF hD
        have hu := hi.upd
        have e74 : a.tmps[74]?.getD undef = .string (⟨#[72, 2]⟩ ++ y4 ++ y0) := (ev a 74).symm.trans (hD _ (Array.mem_of_getElem? (i := 0) rfl) rfl).1
        have e77 : a.tmps[77]?.getD undef = .string y1 := (ev a 77).symm.trans (hD _ (Array.mem_of_getElem? (i := 1) rfl) rfl).1
        clear hF hD
        obtain ⟨c0, c1, c2, c3, c4, c5, -⟩ := HC.out W hu
        have := run_string_add_sum (P := Tryz.prog) W (⟨#[72, 2]⟩ ++ y4 ++ y0) y1 (by simp only [ByteArray.size_append]; omega)
        go_simp
      · refine step_is _ rfl ⟨_, rfl⟩ rfl (fun _ _ => trivial) ?_
        intro a W hi hF hD
        have hu := hi.upd
        have e1 : a.tmps[1]?.getD undef = _ := (ev a 1).symm.trans (hF 1 (by kernel_rfl))
        clear hF hD
        obtain ⟨c0, c1, c2, c3, c4, c5, -⟩ := HC.out W hu
        go_simp
      · refine step_is _ rfl ⟨_, rfl⟩ rfl (fun _ _ => trivial) ?_
        intro a W hi hF hD
        have hu := hi.upd
        have e79 : a.tmps[79]?.getD undef = .pointer (some ⟨w.heap.size, 3, none⟩) := (ev a 79).symm.trans (hD _ (Array.mem_of_getElem? (i := 0) rfl) rfl).1
        clear hF hD
        obtain ⟨c0, c1, c2, c3, c4, c5, -⟩ := HC.out W hu
        go_simp
      · refine step_call rfl (fun _ _ => trivial) ?_
        intro a W hi hF hD
        have hu := hi.upd
        have e80 : a.tmps[80]?.getD undef = .int .i64 ns := (ev a 80).symm.trans (hD _ (Array.mem_of_getElem? (i := 0) rfl) rfl).1
        clear hF hD
        obtain ⟨c0, c1, c2, c3, c4, c5, -⟩ := HC.out W hu
        refine ⟨_, _, by (go_simp; first | done | rfl | exact ⟨rfl, rfl⟩), ?_⟩
        refine (H2.out _).mono ?_
        rintro e w2 ⟨rfl, hu2⟩
        first | exact ⟨_, rfl, hu2, rfl⟩ | (cases hu2; exact ⟨_, rfl, Upd.refl _ _, rfl⟩)
      · refine step_is _ rfl ⟨_, rfl⟩ rfl (fun _ _ => trivial) ?_
        intro a W hi hF hD
        have hu := hi.upd
        have e78 : a.tmps[78]?.getD undef = .string (⟨#[72, 2]⟩ ++ y4 ++ y0 ++ y1) := (ev a 78).symm.trans (hD _ (Array.mem_of_getElem? (i := 0) rfl) rfl).1
        have e81 : a.tmps[81]?.getD undef = .string y2 := (ev a 81).symm.trans (hD _ (Array.mem_of_getElem? (i := 1) rfl) rfl).1
        clear hF hD
        obtain ⟨c0, c1, c2, c3, c4, c5, -⟩ := HC.out W hu
        have := run_string_add_sum (P := Tryz.prog) W (⟨#[72, 2]⟩ ++ y4 ++ y0 ++ y1) y2 (by simp only [ByteArray.size_append]; omega)
        go_simp
      · refine step_is _ rfl ⟨_, rfl⟩ rfl (fun _ _ => trivial) ?_
        intro a W hi hF hD
        have hu := hi.upd
        have e1 : a.tmps[1]?.getD undef = _ := (ev a 1).symm.trans (hF 1 (by kernel_rfl))
        clear hF hD
        obtain ⟨c0, c1, c2, c3, c4, c5, -⟩ := HC.out W hu
        go_simp
      · refine step_is _ rfl ⟨_, rfl⟩ rfl (fun _ _ => trivial) ?_
        intro a W hi hF hD
        have hu := hi.upd
        have e83 : a.tmps[83]?.getD undef = .pointer (some ⟨w.heap.size, 4, none⟩) := (ev a 83).symm.trans (hD _ (Array.mem_of_getElem? (i := 0) rfl) rfl).1
        clear hF hD
        obtain ⟨c0, c1, c2, c3, c4, c5, -⟩ := HC.out W hu
        go_simp
      · refine step_call rfl (fun _ _ => trivial) ?_
        intro a W hi hF hD
        have hu := hi.upd
        have e84 : a.tmps[84]?.getD undef = .int .i64 nr := (ev a 84).symm.trans (hD _ (Array.mem_of_getElem? (i := 0) rfl) rfl).1
        clear hF hD
        obtain ⟨c0, c1, c2, c3, c4, c5, -⟩ := HC.out W hu
        refine ⟨_, _, by (go_simp; first | done | rfl | exact ⟨rfl, rfl⟩), ?_⟩
        refine (H3.out _).mono ?_
        rintro e w2 ⟨rfl, hu2⟩
        first | exact ⟨_, rfl, hu2, rfl⟩ | (cases hu2; exact ⟨_, rfl, Upd.refl _ _, rfl⟩)
      · refine step_is _ rfl ⟨_, rfl⟩ rfl (fun _ _ => trivial) ?_
        intro a W hi hF hD
        have hu := hi.upd
        have e82 : a.tmps[82]?.getD undef = .string (⟨#[72, 2]⟩ ++ y4 ++ y0 ++ y1 ++ y2) := (ev a 82).symm.trans (hD _ (Array.mem_of_getElem? (i := 0) rfl) rfl).1
        have e85 : a.tmps[85]?.getD undef = .string y3 := (ev a 85).symm.trans (hD _ (Array.mem_of_getElem? (i := 1) rfl) rfl).1
        clear hF hD
        obtain ⟨c0, c1, c2, c3, c4, c5, -⟩ := HC.out W hu
        have := run_string_add_sum (P := Tryz.prog) W (⟨#[72, 2]⟩ ++ y4 ++ y0 ++ y1 ++ y2) y3 (by simp only [ByteArray.size_append]; omega)
        go_simp
      · refine step_is _ rfl ⟨_, rfl⟩ rfl (fun _ _ => trivial) ?_
        intro a W hi hF hD
        have hu := hi.upd
        have e1 : a.tmps[1]?.getD undef = _ := (ev a 1).symm.trans (hF 1 (by kernel_rfl))
        clear hF hD
        obtain ⟨c0, c1, c2, c3, c4, c5, -⟩ := HC.out W hu
        go_simp
      · refine step_is _ rfl ⟨_, rfl⟩ rfl (fun _ _ => trivial) ?_
        intro a W hi hF hD
        have hu := hi.upd
        have e87 : a.tmps[87]?.getD undef = .pointer (some ⟨w.heap.size, 5, none⟩) := (ev a 87).symm.trans (hD _ (Array.mem_of_getElem? (i := 0) rfl) rfl).1
        clear hF hD
        obtain ⟨c0, c1, c2, c3, c4, c5, -⟩ := HC.out W hu
        go_simp
      · refine step_is _ rfl ⟨_, rfl⟩ rfl (fun _ _ => trivial) ?_
        intro a W hi hF hD
        have hu := hi.upd
        have e86 : a.tmps[86]?.getD undef = .string (⟨#[72, 2]⟩ ++ y4 ++ y0 ++ y1 ++ y2 ++ y3) := (ev a 86).symm.trans (hD _ (Array.mem_of_getElem? (i := 0) rfl) rfl).1
        have e88 : a.tmps[88]?.getD undef = .string b := (ev a 88).symm.trans (hD _ (Array.mem_of_getElem? (i := 1) rfl) rfl).1
        clear hF hD
        obtain ⟨c0, c1, c2, c3, c4, c5, -⟩ := HC.out W hu
        have := run_string_add_sum (P := Tryz.prog) W (⟨#[72, 2]⟩ ++ y4 ++ y0 ++ y1 ++ y2 ++ y3) b (by simp only [ByteArray.size_append]; omega)
        rw [HE.out] at this
        go_simp
      · refine step_is _ rfl ⟨_, rfl⟩ rfl (fun _ _ => trivial) ?_
        intro a W hi hF hD
        have hu := hi.upd
        have e89 : a.tmps[89]?.getD undef = .string Y := (ev a 89).symm.trans (hD _ (Array.mem_of_getElem? (i := 0) rfl) rfl).1
        clear hF hD
        obtain ⟨c0, c1, c2, c3, c4, c5, -⟩ := HC.out W hu
        go_simp
      · refine step_is _ rfl ⟨_, rfl⟩ rfl (fun _ _ => trivial) ?_
        intro a W hi hF hD
        have hu := hi.upd
        clear hF hD
        obtain ⟨c0, c1, c2, c3, c4, c5, -⟩ := HC.out W hu
        go_simp
    intro vals W hu hv
    have v0 : vals 0 = .pointer (some ⟨w.heap.size, 5, none⟩) := (hv 0 (by decide)).1
    have v1 : vals 1 = .string b := (hv 1 (by decide)).1
    have v2 : vals 2 = .int .i64 b.size := (hv 2 (by decide)).1
    have v3 : vals 3 = .int .i64 ((b.size : Int) + 12) := (hv 3 (by decide)).1
    have v4 : vals 4 = .string y4 := (hv 4 (by decide)).1
    have v5 : vals 5 = .string (⟨#[72, 2]⟩ ++ y4) := (hv 5 (by decide)).1
    have v6 : vals 6 = .pointer (some ⟨w.heap.size, 0, none⟩) := (hv 6 (by decide)).1
    have v7 : vals 7 = .int .i64 t := (hv 7 (by decide)).1
    have v8 : vals 8 = .string y0 := (hv 8 (by decide)).1
    have v9 : vals 9 = .string (⟨#[72, 2]⟩ ++ y4 ++ y0) := (hv 9 (by decide)).1
    have v10 : vals 10 = .pointer (some ⟨w.heap.size, 1, none⟩) := (hv 10 (by decide)).1
    have v11 : vals 11 = .int .i64 s := (hv 11 (by decide)).1
    have v12 : vals 12 = .string y1 := (hv 12 (by decide)).1
    have v13 : vals 13 = .string (⟨#[72, 2]⟩ ++ y4 ++ y0 ++ y1) := (hv 13 (by decide)).1
    have v14 : vals 14 = .pointer (some ⟨w.heap.size, 3, none⟩) := (hv 14 (by decide)).1
    have v15 : vals 15 = .int .i64 ns := (hv 15 (by decide)).1
    have v16 : vals 16 = .string y2 := (hv 16 (by decide)).1
    have v17 : vals 17 = .string (⟨#[72, 2]⟩ ++ y4 ++ y0 ++ y1 ++ y2) := (hv 17 (by decide)).1
    have v18 : vals 18 = .pointer (some ⟨w.heap.size, 4, none⟩) := (hv 18 (by decide)).1
    have v19 : vals 19 = .int .i64 nr := (hv 19 (by decide)).1
    have v20 : vals 20 = .string y3 := (hv 20 (by decide)).1
    have v21 : vals 21 = .string (⟨#[72, 2]⟩ ++ y4 ++ y0 ++ y1 ++ y2 ++ y3) := (hv 21 (by decide)).1
    have v22 : vals 22 = .pointer (some ⟨w.heap.size, 5, none⟩) := (hv 22 (by decide)).1
    have v23 : vals 23 = .string b := (hv 23 (by decide)).1
    have v24 : vals 24 = .string Y := (hv 24 (by decide)).1
    have v25 : vals 25 = .string Y := (hv 25 (by decide)).1
    have v26 : vals 26 = .int .i64 0 := (hv 26 (by decide)).1
    clear hv
    simp only [putAll, Act.put, Nat.zero_add, Nat.reduceAdd, v0, v1, v2, v3, v4, v5, v6, v7, v8, v9, v10, v11, v12, v13, v14, v15, v16, v17, v18, v19, v20, v21, v22, v23, v24, v25, v26, List.setIfInBounds_toArray, List.set_cons_zero, List.set_cons_succ]
    clear v0 v1 v2 v3 v4 v5 v6 v7 v8 v9 v10 v11 v12 v13 v14 v15 v16 v17 v18 v19 v20 v21 v22 v23 v24 v25 v26
    go_wp2_with fail
    go_ret2
    exact ⟨rfl, HU.out.trans hu⟩
set_option maxHeartbeats 4000000 in
theorem rgetLoad_true (b : ByteArray) (hb : b.size ≤ 400000) (h8 : 8 ≤ b.size) (hy0 : byte b 0 = 72) (hy1 : byte b 1 = 2) (w : World) :
    Calls Tryz.prog 30 #[.string b] w fun e w' => e = .returned (.tuple #[(getL b).1.agg, .int .i64 (getL b).2]) ∧ Upd [] w w' := by
  obtain ⟨R, hR⟩ : ∃ R, getL b = R := ⟨_, rfl⟩
  rw [hR]
  have HR : Hid ((if (b.size : Int) < num b 2 2 then (Ld.zero, (5 : Int)) else if num b 2 2 < 12 then (.zero, 4) else if 1460 < num b 2 2 - 12 then (.zero, 2) else
      (⟨num b 4 2, num b 6 2, true, num b 8 2, num b 10 2, b.extract 12 (num b 2 2).toNat⟩, 0)) = R) := by
    show _ = _
    refine Eq.trans (Eq.symm ?_) hR
    rw [getL, if_neg (by omega), if_neg (by rintro (h | h); exact h (.inr hy0); exact h hy1)]
    simp [hy0]
  clear hR
  have t1' : ¬ (b.size : Int) < 8 := by omega
  have p0 : 0 < b.size := by omega
  have p1 : 1 < b.size := by omega
  have q0 := byte_get b 0 p0
  have q1 := byte_get b 1 p1
  rw [hy0] at q0
  rw [hy1] at q1
  have HN2 := Lib.hid (rnum_any b 2 (by simp only [maxLen]; omega) (by omega))
  have HN4 := Lib.hid (rnum_any b 4 (by simp only [maxLen]; omega) (by omega))
  have HN6 := Lib.hid (rnum_any b 6 (by simp only [maxLen]; omega) (by omega))
  have hnb := num_bd b 2 2
  obtain ⟨n, hnn⟩ : ∃ n : Nat, num b 2 2 = n := Int.eq_ofNat_of_zero_le hnb.1
  rw [hnn] at HR HN2 hnb
  rw [Int.toNat_natCast] at HR
  have hnb2 : n < 65536 := by have := hnb.2; omega
  have HBZ := Lib.hid hb
  generalize num b 4 2 = k4 at *
  generalize num b 6 2 = k6 at *
  clear hy0 hy1 hnn hnb
  have HA0 := Lib.hid (Blk.new w 26 #[.int .i64 0, .int .i64 0, .bool false, .int .i64 0, .int .i64 0, .string ⟨#[]⟩])
  have U0 := Lib.hid ((Upd.refl [] w).alloc (Obj.cells #[.int .i64 0, .int .i64 0, .bool false, .int .i64 0, .int .i64 0, .string ⟨#[]⟩] 26))
  go_enter Tryz.func30, Tryz.ntmps30
  go_wp2_with fail
  refine (HN2.out _).mono ?_
  rintro e w1 ⟨rfl, hu1⟩
  have HU1 := Lib.hid (U0.out.trans hu1)
  have HA1 := Lib.hid (HA0.out.upd hu1 (by simp))
  clear hu1 U0 HA0
  go_upto_region 6 with (fail)
  refine wp_region_chain [some (.string b), some (.int .i64 k4), some (.string b), some (.int .i64 k6), some (.string b), some (.int .u8 72), some (.bool true), some (.agg #[.int .i64 k4, .int .i64 k6, .bool true, .int .i64 0, .int .i64 0, .string ⟨#[]⟩]), none, none] [8,9] (glA w1 #[.int .i64 k4, .int .i64 k6, .bool true, .int .i64 0, .int .i64 0, .string ⟨#[]⟩]) [(0, 1), (0, 1), (0, 1), (0, 1), (0, 1), (0, 1), (0, 1), (0, 1), (0, 0), (1, 1)] (by kernel_rfl) (by kernel_rfl) (by kernel_rfl) (by kernel_rfl) (by kernel_rfl) (by kernel_rfl) (((Upd.refl [] _).drew)) ?_ ?_
  · refine StepsC.cons ?_ (StepsC.cons ?_ (StepsC.cons ?_ (StepsC.cons ?_ (StepsC.cons ?_ (StepsC.cons ?_ (StepsC.cons ?_ (StepsC.cons ?_ (StepsC.cons ?_ (StepsC.cons ?_ StepsC.nil)))))))))
    · refine chain_is _ (.inl rfl) ⟨_, rfl⟩ (by kernel_rfl) rfl ?_
      intro a W kst l0 h0 A0 hF hD
      have e0 : a.tmps[0]?.getD undef = _ := (ev a 0).symm.trans (hF 0 (by kernel_rfl))
      clear hF hD
      go_simp
    · refine chain_beside _ (.inl rfl) ⟨_, rfl⟩ (by kernel_rfl) rfl ?_
      intro a W kst l0 h0 A0 hF hD
      have e27 : a.tmps[27]?.getD undef = .string b := (ev a 27).symm.trans (hD _ (Array.mem_of_getElem? (i := 0) rfl) rfl)
      clear hF hD
      refine ⟨_, _, by (go_simp; first | done | rfl | exact ⟨rfl, rfl⟩), ?_⟩
      refine (HN4.out W).mono ?_
      rintro e w2 ⟨rfl, hu⟩
      exact ⟨rfl, glA_keep A0 hu⟩
    · refine chain_is _ (.inl rfl) ⟨_, rfl⟩ (by kernel_rfl) rfl ?_
      intro a W kst l0 h0 A0 hF hD
      have e0 : a.tmps[0]?.getD undef = _ := (ev a 0).symm.trans (hF 0 (by kernel_rfl))
      clear hF hD
      go_simp
    · refine chain_beside _ (.inl rfl) ⟨_, rfl⟩ (by kernel_rfl) rfl ?_
      intro a W kst l0 h0 A0 hF hD
      have e29 : a.tmps[29]?.getD undef = .string b := (ev a 29).symm.trans (hD _ (Array.mem_of_getElem? (i := 0) rfl) rfl)
      clear hF hD
      refine ⟨_, _, by (go_simp; first | done | rfl | exact ⟨rfl, rfl⟩), ?_⟩
      refine (HN6.out W).mono ?_
      rintro e w2 ⟨rfl, hu⟩
      exact ⟨rfl, glA_keep A0 hu⟩
    · refine chain_is _ (.inl rfl) ⟨_, rfl⟩ (by kernel_rfl) rfl ?_
      intro a W kst l0 h0 A0 hF hD
      have e0 : a.tmps[0]?.getD undef = _ := (ev a 0).symm.trans (hF 0 (by kernel_rfl))
      clear hF hD
      go_simp
    · refine chain_is _ (.inl rfl) ⟨_, rfl⟩ (by kernel_rfl) rfl ?_
      intro a W kst l0 h0 A0 hF hD
      have e31 : a.tmps[31]?.getD undef = .string b := (ev a 31).symm.trans (hD _ (Array.mem_of_getElem? (i := 0) rfl) rfl)
      clear hF hD
      go_simp
      try (intros; omega)
    · refine chain_is _ (.inl rfl) ⟨_, rfl⟩ (by kernel_rfl) rfl ?_
      intro a W kst l0 h0 A0 hF hD
      have e32 : a.tmps[32]?.getD undef = .int .u8 72 := (ev a 32).symm.trans (hD _ (Array.mem_of_getElem? (i := 0) rfl) rfl)
      clear hF hD
      go_simp
      first | done | rfl
    · refine chain_is _ (.inl rfl) ⟨_, rfl⟩ (by kernel_rfl) rfl ?_
      intro a W kst l0 h0 A0 hF hD
      have e28 : a.tmps[28]?.getD undef = .int .i64 k4 := (ev a 28).symm.trans (hD _ (Array.mem_of_getElem? (i := 0) rfl) rfl)
      have e30 : a.tmps[30]?.getD undef = .int .i64 k6 := (ev a 30).symm.trans (hD _ (Array.mem_of_getElem? (i := 1) rfl) rfl)
      have e33 : a.tmps[33]?.getD undef = .bool true := (ev a 33).symm.trans (hD _ (Array.mem_of_getElem? (i := 2) rfl) rfl)
      clear hF hD
      go_simp
    · refine chain_run (.inl rfl) ⟨_, rfl⟩ (by kernel_rfl) ?_
      intro a W kst l0 h0 A0 hF hD
      have k0 : kst = 0 := Nat.le_antisymm h0 l0
      subst k0
      clear l0 h0
      clear hF hD
      have hu : Upd [] w1 W := A0
      exact ⟨.pointer (some ⟨W.heap.size, 0, none⟩), W.alloc (.cells #[.int .i64 0, .int .i64 0, .bool false, .int .i64 0, .int .i64 0, .string ⟨#[]⟩] 26), by (go_simp; first | done | rfl), trivial, hu.alloc _, W.heap.size, hu.size, rfl, Blk.new _ _ _⟩
    · refine chain_set (.inl rfl) rfl (by kernel_rfl) trivial ?_
      intro a W kst l0 h0 A0 hF hD
      have k0 : kst = 1 := Nat.le_antisymm h0 l0
      subst k0
      clear l0 h0
      have e34 : a.tmps[34]?.getD undef = .agg #[.int .i64 k4, .int .i64 k6, .bool true, .int .i64 0, .int .i64 0, .string ⟨#[]⟩] := (ev a 34).symm.trans (hD _ (Array.mem_of_getElem? (i := 1) rfl) rfl)
      clear hF hD
      obtain ⟨hu, g, hg, hp, hbk⟩ := A0
      have e6 : a.tmps[6]?.getD undef = _ := (ev a 6).symm.trans hp
      obtain ⟨s0, s1, s2, s3, s4, s5, f0, f1, f2, f3, f4, f5, hlt⟩ := ld6 hbk
      refine ⟨_, by (go_simp; first | done | rfl), ((((((hu.setCell _ (.inr hg)).setCell _ (.inr hg)).setCell _ (.inr hg)).setCell _ (.inr hg)).setCell _ (.inr hg)).setCell _ (.inr hg)), g, hg, hp, (((((hbk.set_ 0 _).set_ 1 _).set_ 2 _).set_ 3 _).set_ 4 _).set_ 5 _⟩
  intro vals W hv hA
  have v0 : vals 0 = .string b := hv 0 (by decide)
  have v1 : vals 1 = .int .i64 k4 := hv 1 (by decide)
  have v2 : vals 2 = .string b := hv 2 (by decide)
  have v3 : vals 3 = .int .i64 k6 := hv 3 (by decide)
  have v4 : vals 4 = .string b := hv 4 (by decide)
  have v5 : vals 5 = .int .u8 72 := hv 5 (by decide)
  have v6 : vals 6 = .bool true := hv 6 (by decide)
  have v7 : vals 7 = .agg #[.int .i64 k4, .int .i64 k6, .bool true, .int .i64 0, .int .i64 0, .string ⟨#[]⟩] := hv 7 (by decide)
  clear hv
  obtain ⟨hu, g, hg, v8, hbk⟩ := hA
  simp only [putAll, Act.put, Nat.zero_add, Nat.reduceAdd, v8, v0, v1, v2, v3, v4, v5, v6, v7, List.setIfInBounds_toArray, List.set_cons_zero, List.set_cons_succ]
  clear v0 v1 v2 v3 v4 v5 v6 v7
  clear v8
  have hzlt := HA1.out.lt
  have hgl : w.heap.size < g := by omega
  have HBK := Lib.hid hbk
  have HRS := Lib.hid (HA1.out.upd hu (by simp))
  have HUX := Lib.hid (HU1.out.trans hu)
  clear hu hbk hg HA1 HU1
  obtain ⟨d0, d1, d2, d3, d4, d5, g0, g1, g2, g3, g4, g5, glt⟩ := ld6 HBK.out
  obtain ⟨z0, z1, z2, z3, z4, z5, f0, f1, f2, f3, f4, f5, zlt⟩ := ld6 HRS.out
  by_cases t3 : (b.size : Int) < n
  · have hr := HR.out
    rw [if_pos t3] at hr
    subst hr
    clear HR
    go_wp2_with fail
    exact bodyPost_ret (v := .tuple #[.agg #[.int .i64 0, .int .i64 0, .bool false, .int .i64 0, .int .i64 0, .string ⟨#[]⟩], .int .i64 5]) (by simp [results, Tryz.results30, go_sem, z0, z1, z2, z3, z4, z5]) rfl ⟨rfl, (by repeat (with_reducible first | refine Upd.setCell _ ?_ (.inr (by simp)) | exact HUX.out))⟩
  have HR1 := Lib.hid ((if_neg t3).symm.trans HR.out)
  clear HR
  by_cases t4 : (n : Int) < 12
  · have hr := HR1.out
    rw [if_pos t4] at hr
    subst hr
    clear HR1
    go_wp2_with fail
    exact bodyPost_ret (v := .tuple #[.agg #[.int .i64 0, .int .i64 0, .bool false, .int .i64 0, .int .i64 0, .string ⟨#[]⟩], .int .i64 4]) (by simp [results, Tryz.results30, go_sem, z0, z1, z2, z3, z4, z5]) rfl ⟨rfl, (by repeat (with_reducible first | refine Upd.setCell _ ?_ (.inr (by simp)) | exact HUX.out))⟩
  have HR2 := Lib.hid ((if_neg t4).symm.trans HR1.out)
  clear HR1
  by_cases t5 : 1460 < (n : Int) - 12
  · have hr := HR2.out
    rw [if_pos t5] at hr
    subst hr
    clear HR2
    go_wp2_with fail
    exact bodyPost_ret (v := .tuple #[.agg #[.int .i64 0, .int .i64 0, .bool false, .int .i64 0, .int .i64 0, .string ⟨#[]⟩], .int .i64 2]) (by simp [results, Tryz.results30, go_sem, z0, z1, z2, z3, z4, z5]) rfl ⟨rfl, (by repeat (with_reducible first | refine Upd.setCell _ ?_ (.inr (by simp)) | exact HUX.out))⟩
  have hr := HR2.out
  rw [if_neg t5] at hr
  clear HR2
  obtain ⟨X, hX⟩ : ∃ x, x = b.extract 12 n := ⟨_, rfl⟩
  rw [← hX] at hr
  have HX := Lib.hid hX
  clear hX
  have HN8 := Lib.hid (rnum_any b 8 (by simp only [maxLen]; omega) (by omega))
  have HN10 := Lib.hid (rnum_any b 10 (by simp only [maxLen]; omega) (by omega))
  generalize num b 8 2 = k8 at *
  generalize num b 10 2 = k10 at *
  subst hr
  go_wp2_with fail
  refine (HN8.out _).mono ?_
  rintro e w3 ⟨rfl, hu3⟩
  go_wp2_with fail
  refine (HN10.out _).mono ?_
  rintro e w4 ⟨rfl, hu4⟩
  have HUY := Lib.hid (HUX.out.trans (hu3.trans hu4))
  have HBK2 := Lib.hid (HBK.out.upd (hu3.trans hu4) (by simp))
  have HRS2 := Lib.hid (HRS.out.upd (hu3.trans hu4) (by simp))
  clear hu3 hu4 d0 d1 d2 d3 d4 d5 g0 g1 g2 g3 g4 g5 glt z0 z1 z2 z3 z4 z5 f0 f1 f2 f3 f4 f5 zlt
  obtain ⟨d0, d1, d2, d3, d4, d5, g0, g1, g2, g3, g4, g5, glt⟩ := ld6 HBK2.out
  obtain ⟨z0, z1, z2, z3, z4, z5, f0, f1, f2, f3, f4, f5, zlt⟩ := ld6 HRS2.out
  have hne : w.heap.size ≠ g := by omega
  have hne' : g ≠ w.heap.size := by omega
  have hgl2 : w.heap.size ≤ g := by omega
  have hxe := HX.out
  go_wp2_with fail
  exact bodyPost_ret (v := .tuple #[.agg #[.int .i64 k4, .int .i64 k6, .bool true, .int .i64 k8, .int .i64 k10, .string X], .int .i64 0]) (by simp [results, Tryz.results30, go_sem, hxe, hne, hne', d0, d1, d2, d3, d4, d5, z0, z1, z2, z3, z4, z5]) rfl ⟨by rw [hxe]; rfl, (by repeat (with_reducible first | refine Upd.setCell _ ?_ (.inr (by first | exact hgl2 | exact Nat.le_refl _)) | exact HUY.out))⟩
set_option maxHeartbeats 4000000 in
theorem rgetLoad_false (b : ByteArray) (hb : b.size ≤ 400000) (h8 : 8 ≤ b.size) (hy0 : byte b 0 = 64) (hy1 : byte b 1 = 2) (w : World) :
    Calls Tryz.prog 30 #[.string b] w fun e w' => e = .returned (.tuple #[(getL b).1.agg, .int .i64 (getL b).2]) ∧ Upd [] w w' := by
  obtain ⟨R, hR⟩ : ∃ R, getL b = R := ⟨_, rfl⟩
  rw [hR]
  have HR : Hid ((if (b.size : Int) < num b 2 2 then (Ld.zero, (5 : Int)) else if num b 2 2 < 8 then (.zero, 4) else if 1460 < num b 2 2 - 8 then (.zero, 2) else
      (⟨num b 4 2, num b 6 2, false, 0, 0, b.extract 8 (num b 2 2).toNat⟩, 0)) = R) := by
    show _ = _
    refine Eq.trans (Eq.symm ?_) hR
    rw [getL, if_neg (by omega), if_neg (by rintro (h | h); exact h (.inl hy0); exact h hy1)]
    simp [hy0]
  clear hR
  have t1' : ¬ (b.size : Int) < 8 := by omega
  have p0 : 0 < b.size := by omega
  have p1 : 1 < b.size := by omega
  have q0 := byte_get b 0 p0
  have q1 := byte_get b 1 p1
  rw [hy0] at q0
  rw [hy1] at q1
  have HN2 := Lib.hid (rnum_any b 2 (by simp only [maxLen]; omega) (by omega))
  have HN4 := Lib.hid (rnum_any b 4 (by simp only [maxLen]; omega) (by omega))
  have HN6 := Lib.hid (rnum_any b 6 (by simp only [maxLen]; omega) (by omega))
  have hnb := num_bd b 2 2
  obtain ⟨n, hnn⟩ : ∃ n : Nat, num b 2 2 = n := Int.eq_ofNat_of_zero_le hnb.1
  rw [hnn] at HR HN2 hnb
  rw [Int.toNat_natCast] at HR
  have hnb2 : n < 65536 := by have := hnb.2; omega
  have HBZ := Lib.hid hb
  generalize num b 4 2 = k4 at *
  generalize num b 6 2 = k6 at *
  clear hy0 hy1 hnn hnb
  have HA0 := Lib.hid (Blk.new w 26 #[.int .i64 0, .int .i64 0, .bool false, .int .i64 0, .int .i64 0, .string ⟨#[]⟩])
  have U0 := Lib.hid ((Upd.refl [] w).alloc (Obj.cells #[.int .i64 0, .int .i64 0, .bool false, .int .i64 0, .int .i64 0, .string ⟨#[]⟩] 26))
  go_enter Tryz.func30, Tryz.ntmps30
  go_wp2_with fail
  refine (HN2.out _).mono ?_
  rintro e w1 ⟨rfl, hu1⟩
  have HU1 := Lib.hid (U0.out.trans hu1)
  have HA1 := Lib.hid (HA0.out.upd hu1 (by simp))
  clear hu1 U0 HA0
  go_upto_region 6 with (fail)
  refine wp_region_chain [some (.string b), some (.int .i64 k4), some (.string b), some (.int .i64 k6), some (.string b), some (.int .u8 64), some (.bool false), some (.agg #[.int .i64 k4, .int .i64 k6, .bool false, .int .i64 0, .int .i64 0, .string ⟨#[]⟩]), none, none] [8,9] (glA w1 #[.int .i64 k4, .int .i64 k6, .bool false, .int .i64 0, .int .i64 0, .string ⟨#[]⟩]) [(0, 1), (0, 1), (0, 1), (0, 1), (0, 1), (0, 1), (0, 1), (0, 1), (0, 0), (1, 1)] (by kernel_rfl) (by kernel_rfl) (by kernel_rfl) (by kernel_rfl) (by kernel_rfl) (by kernel_rfl) (((Upd.refl [] _).drew)) ?_ ?_
  · refine StepsC.cons ?_ (StepsC.cons ?_ (StepsC.cons ?_ (StepsC.cons ?_ (StepsC.cons ?_ (StepsC.cons ?_ (StepsC.cons ?_ (StepsC.cons ?_ (StepsC.cons ?_ (StepsC.cons ?_ StepsC.nil)))))))))
    · refine chain_is _ (.inl rfl) ⟨_, rfl⟩ (by kernel_rfl) rfl ?_
      intro a W kst l0 h0 A0 hF hD
      have e0 : a.tmps[0]?.getD undef = _ := (ev a 0).symm.trans (hF 0 (by kernel_rfl))
      clear hF hD
      go_simp
    · refine chain_beside _ (.inl rfl) ⟨_, rfl⟩ (by kernel_rfl) rfl ?_
      intro a W kst l0 h0 A0 hF hD
      have e27 : a.tmps[27]?.getD undef = .string b := (ev a 27).symm.trans (hD _ (Array.mem_of_getElem? (i := 0) rfl) rfl)
      clear hF hD
      refine ⟨_, _, by (go_simp; first | done | rfl | exact ⟨rfl, rfl⟩), ?_⟩
      refine (HN4.out W).mono ?_
      rintro e w2 ⟨rfl, hu⟩
      exact ⟨rfl, glA_keep A0 hu⟩
    · refine chain_is _ (.inl rfl) ⟨_, rfl⟩ (by kernel_rfl) rfl ?_
      intro a W kst l0 h0 A0 hF hD
      have e0 : a.tmps[0]?.getD undef = _ := (ev a 0).symm.trans (hF 0 (by kernel_rfl))
      clear hF hD
      go_simp
    · refine chain_beside _ (.inl rfl) ⟨_, rfl⟩ (by kernel_rfl) rfl ?_
      intro a W kst l0 h0 A0 hF hD
      have e29 : a.tmps[29]?.getD undef = .string b := (ev a 29).symm.trans (hD _ (Array.mem_of_getElem? (i := 0) rfl) rfl)
      clear hF hD
      refine ⟨_, _, by (go_simp; first | done | rfl | exact ⟨rfl, rfl⟩), ?_⟩
      refine (HN6.out W).mono ?_
      rintro e w2 ⟨rfl, hu⟩
      exact ⟨rfl, glA_keep A0 hu⟩
    · refine chain_is _ (.inl rfl) ⟨_, rfl⟩ (by kernel_rfl) rfl ?_
      intro a W kst l0 h0 A0 hF hD
      have e0 : a.tmps[0]?.getD undef = _ := (ev a 0).symm.trans (hF 0 (by kernel_rfl))
      clear hF hD
      go_simp
    · refine chain_is _ (.inl rfl) ⟨_, rfl⟩ (by kernel_rfl) rfl ?_
      intro a W kst l0 h0 A0 hF hD
      have e31 : a.tmps[31]?.getD undef = .string b := (ev a 31).symm.trans (hD _ (Array.mem_of_getElem? (i := 0) rfl) rfl)
      clear hF hD
      go_simp
      try (intros; omega)
    · refine chain_is _ (.inl rfl) ⟨_, rfl⟩ (by kernel_rfl) rfl ?_
      intro a W kst l0 h0 A0 hF hD
      have e32 : a.tmps[32]?.getD undef = .int .u8 64 := (ev a 32).symm.trans (hD _ (Array.mem_of_getElem? (i := 0) rfl) rfl)
      clear hF hD
      go_simp
      first | done | rfl
    · refine chain_is _ (.inl rfl) ⟨_, rfl⟩ (by kernel_rfl) rfl ?_
      intro a W kst l0 h0 A0 hF hD
      have e28 : a.tmps[28]?.getD undef = .int .i64 k4 := (ev a 28).symm.trans (hD _ (Array.mem_of_getElem? (i := 0) rfl) rfl)
      have e30 : a.tmps[30]?.getD undef = .int .i64 k6 := (ev a 30).symm.trans (hD _ (Array.mem_of_getElem? (i := 1) rfl) rfl)
      have e33 : a.tmps[33]?.getD undef = .bool false := (ev a 33).symm.trans (hD _ (Array.mem_of_getElem? (i := 2) rfl) rfl)
      clear hF hD
      go_simp
    · refine chain_run (.inl rfl) ⟨_, rfl⟩ (by kernel_rfl) ?_
      intro a W kst l0 h0 A0 hF hD
      have k0 : kst = 0 := Nat.le_antisymm h0 l0
      subst k0
      clear l0 h0
      clear hF hD
      have hu : Upd [] w1 W := A0
      exact ⟨.pointer (some ⟨W.heap.size, 0, none⟩), W.alloc (.cells #[.int .i64 0, .int .i64 0, .bool false, .int .i64 0, .int .i64 0, .string ⟨#[]⟩] 26), by (go_simp; first | done | rfl), trivial, hu.alloc _, W.heap.size, hu.size, rfl, Blk.new _ _ _⟩
    · refine chain_set (.inl rfl) rfl (by kernel_rfl) trivial ?_
      intro a W kst l0 h0 A0 hF hD
      have k0 : kst = 1 := Nat.le_antisymm h0 l0
      subst k0
      clear l0 h0
      have e34 : a.tmps[34]?.getD undef = .agg #[.int .i64 k4, .int .i64 k6, .bool false, .int .i64 0, .int .i64 0, .string ⟨#[]⟩] := (ev a 34).symm.trans (hD _ (Array.mem_of_getElem? (i := 1) rfl) rfl)
      clear hF hD
      obtain ⟨hu, g, hg, hp, hbk⟩ := A0
      have e6 : a.tmps[6]?.getD undef = _ := (ev a 6).symm.trans hp
      obtain ⟨s0, s1, s2, s3, s4, s5, f0, f1, f2, f3, f4, f5, hlt⟩ := ld6 hbk
      refine ⟨_, by (go_simp; first | done | rfl), ((((((hu.setCell _ (.inr hg)).setCell _ (.inr hg)).setCell _ (.inr hg)).setCell _ (.inr hg)).setCell _ (.inr hg)).setCell _ (.inr hg)), g, hg, hp, (((((hbk.set_ 0 _).set_ 1 _).set_ 2 _).set_ 3 _).set_ 4 _).set_ 5 _⟩
  intro vals W hv hA
  have v0 : vals 0 = .string b := hv 0 (by decide)
  have v1 : vals 1 = .int .i64 k4 := hv 1 (by decide)
  have v2 : vals 2 = .string b := hv 2 (by decide)
  have v3 : vals 3 = .int .i64 k6 := hv 3 (by decide)
  have v4 : vals 4 = .string b := hv 4 (by decide)
  have v5 : vals 5 = .int .u8 64 := hv 5 (by decide)
  have v6 : vals 6 = .bool false := hv 6 (by decide)
  have v7 : vals 7 = .agg #[.int .i64 k4, .int .i64 k6, .bool false, .int .i64 0, .int .i64 0, .string ⟨#[]⟩] := hv 7 (by decide)
  clear hv
  obtain ⟨hu, g, hg, v8, hbk⟩ := hA
  simp only [putAll, Act.put, Nat.zero_add, Nat.reduceAdd, v8, v0, v1, v2, v3, v4, v5, v6, v7, List.setIfInBounds_toArray, List.set_cons_zero, List.set_cons_succ]
  clear v0 v1 v2 v3 v4 v5 v6 v7
  clear v8
  have hzlt := HA1.out.lt
  have hgl : w.heap.size < g := by omega
  have HBK := Lib.hid hbk
  have HRS := Lib.hid (HA1.out.upd hu (by simp))
  have HUX := Lib.hid (HU1.out.trans hu)
  clear hu hbk hg HA1 HU1
  obtain ⟨d0, d1, d2, d3, d4, d5, g0, g1, g2, g3, g4, g5, glt⟩ := ld6 HBK.out
  obtain ⟨z0, z1, z2, z3, z4, z5, f0, f1, f2, f3, f4, f5, zlt⟩ := ld6 HRS.out
  by_cases t3 : (b.size : Int) < n
  · have hr := HR.out
    rw [if_pos t3] at hr
    subst hr
    clear HR
    go_wp2_with fail
    exact bodyPost_ret (v := .tuple #[.agg #[.int .i64 0, .int .i64 0, .bool false, .int .i64 0, .int .i64 0, .string ⟨#[]⟩], .int .i64 5]) (by simp [results, Tryz.results30, go_sem, z0, z1, z2, z3, z4, z5]) rfl ⟨rfl, (by repeat (with_reducible first | refine Upd.setCell _ ?_ (.inr (by simp)) | exact HUX.out))⟩
  have HR1 := Lib.hid ((if_neg t3).symm.trans HR.out)
  clear HR
  by_cases t4 : (n : Int) < 8
  · have hr := HR1.out
    rw [if_pos t4] at hr
    subst hr
    clear HR1
    go_wp2_with fail
    exact bodyPost_ret (v := .tuple #[.agg #[.int .i64 0, .int .i64 0, .bool false, .int .i64 0, .int .i64 0, .string ⟨#[]⟩], .int .i64 4]) (by simp [results, Tryz.results30, go_sem, z0, z1, z2, z3, z4, z5]) rfl ⟨rfl, (by repeat (with_reducible first | refine Upd.setCell _ ?_ (.inr (by simp)) | exact HUX.out))⟩
  have HR2 := Lib.hid ((if_neg t4).symm.trans HR1.out)
  clear HR1
  by_cases t5 : 1460 < (n : Int) - 8
  · have hr := HR2.out
    rw [if_pos t5] at hr
    subst hr
    clear HR2
    go_wp2_with fail
    exact bodyPost_ret (v := .tuple #[.agg #[.int .i64 0, .int .i64 0, .bool false, .int .i64 0, .int .i64 0, .string ⟨#[]⟩], .int .i64 2]) (by simp [results, Tryz.results30, go_sem, z0, z1, z2, z3, z4, z5]) rfl ⟨rfl, (by repeat (with_reducible first | refine Upd.setCell _ ?_ (.inr (by simp)) | exact HUX.out))⟩
  have hr := HR2.out
  rw [if_neg t5] at hr
  clear HR2
  obtain ⟨X, hX⟩ : ∃ x, x = b.extract 8 n := ⟨_, rfl⟩
  rw [← hX] at hr
  have HX := Lib.hid hX
  clear hX
  subst hr
  have HUY := HUX
  have hne : w.heap.size ≠ g := by omega
  have hne' : g ≠ w.heap.size := by omega
  have hgl2 : w.heap.size ≤ g := by omega
  have hxe := HX.out
  go_wp2_with fail
  exact bodyPost_ret (v := .tuple #[.agg #[.int .i64 k4, .int .i64 k6, .bool false, .int .i64 0, .int .i64 0, .string X], .int .i64 0]) (by simp [results, Tryz.results30, go_sem, hxe, hne, hne', d0, d1, d2, d3, d4, d5, z0, z1, z2, z3, z4, z5]) rfl ⟨by rw [hxe]; rfl, (by repeat (with_reducible first | refine Upd.setCell _ ?_ (.inr (by first | exact hgl2 | exact Nat.le_refl _)) | exact HUY.out))⟩
set_option maxHeartbeats 2000000 in
theorem rgetLoad_any (b : ByteArray) (hb : b.size ≤ 400000) (w : World) :
    Calls Tryz.prog 30 #[.string b] w fun e w' => e = .returned (.tuple #[(getL b).1.agg, .int .i64 (getL b).2]) ∧ Upd [] w w' := by
  by_cases t1 : b.size < 8
  · have e : getL b = (.zero, 5) := by rw [getL, if_pos t1]
    rw [e]
    have t1' : (b.size : Int) < 8 := by omega
    simp only [Ld.zero, Ld.agg]
    go_enter Tryz.func30, Tryz.ntmps30
    go_wp2_with fail
    exact bodyPost_ret (v := .tuple #[.agg #[.int .i64 0, .int .i64 0, .bool false, .int .i64 0, .int .i64 0, .string ⟨#[]⟩], .int .i64 5]) (by simp [results, Tryz.results30, go_sem]) rfl ⟨rfl, (by repeat (with_reducible first | refine Upd.setCell _ ?_ (.inr (by simp)) | refine Upd.alloc _ ?_ | exact Upd.refl _ _))⟩
  by_cases t2 : byte b 0 = 72 ∧ byte b 1 = 2
  · exact rgetLoad_true b hb (by omega) t2.1 t2.2 w
  by_cases t3 : byte b 0 = 64 ∧ byte b 1 = 2
  · exact rgetLoad_false b hb (by omega) t3.1 t3.2 w
  have e : getL b = (.zero, 4) := by
    rw [getL, if_neg t1, if_pos]
    by_cases h : byte b 1 = 2
    · refine .inl ?_
      rintro (h2 | h2)
      · exact t3 ⟨h2, h⟩
      · exact t2 ⟨h2, h⟩
    · exact .inr h
  rw [e]
  have t1' : ¬ (b.size : Int) < 8 := by omega
  have p0 : 0 < b.size := by omega
  have p1 : 1 < b.size := by omega
  have q0 := byte_get b 0 p0
  have q1 := byte_get b 1 p1
  have key : ((byte b 0 != 64) = true ∧ (byte b 0 != 72) = true) ∨ ((byte b 0 != 64) = true ∧ (byte b 0 != 72) = false ∧ (byte b 1 != 2) = true) ∨ ((byte b 0 != 64) = false ∧ (byte b 1 != 2) = true) := by
    by_cases h1 : byte b 0 = 64
    · exact .inr (.inr ⟨by simpa using h1, by have : ¬ byte b 1 = 2 := (fun h => t3 ⟨h1, h⟩); simpa using this⟩)
    by_cases h2 : byte b 0 = 72
    · exact .inr (.inl ⟨by simpa using h1, by simpa using h2, by have : ¬ byte b 1 = 2 := (fun h => t2 ⟨h2, h⟩); simpa using this⟩)
    exact .inl ⟨by simpa using h1, by simpa using h2⟩
  generalize byte b 0 = y0 at *
  generalize byte b 1 = y1 at *
  simp only [Ld.zero, Ld.agg]
  clear e t2 t3 t1
  rcases key with ⟨k1, k2⟩ | ⟨k1, k2, k3⟩ | ⟨k1, k2⟩
  all_goals
    go_enter Tryz.func30, Tryz.ntmps30
    go_wp2_with fail
    exact bodyPost_ret (v := .tuple #[.agg #[.int .i64 0, .int .i64 0, .bool false, .int .i64 0, .int .i64 0, .string ⟨#[]⟩], .int .i64 4]) (by simp [results, Tryz.results30, go_sem]) rfl ⟨rfl, (by repeat (with_reducible first | refine Upd.setCell _ ?_ (.inr (by simp)) | refine Upd.alloc _ ?_ | exact Upd.refl _ _))⟩
end Go.Proofs.YtglafpdealjlnaaGreat
