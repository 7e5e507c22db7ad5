/- The walks of the document's own word, Raw, PutCtl, Kind, Make, IsCtl (chapter 19). The walk of the document's own GetCtl (chapter 19). -/
import Derived.Test.YtglafpdealjlnaaGreatQRAvG
import Derived.Test.YtglafpdealjlnaaGreatQMsgH
namespace Go.Proofs.YtglafpdealjlnaaGreat
open Go.RowKit
set_option linter.unusedSimpArgs false
set_option linter.unusedVariables false
set_option maxRecDepth 100000

theorem putA_short (l : List Av) (secret : ByteArray) : (putA l secret).1.size ≤ 1488 := by
  by_cases h : (putA l secret).2 = 0
  · obtain ⟨_, _, h1, h2⟩ := putA_ok h
    rw [h1]; exact h2
  · rw [putA_bad h]; exact Nat.zero_le _
set_option maxHeartbeats 400000 in
theorem rword_any (v : Int) (w : World) : Calls Tryz.prog 83 #[.int .i64 v] w fun e w' => e = .returned (.bool (!overWord v)) ∧ w = w' := by
  by_cases t1 : v < 0
  · have e : overWord v = true := by simp [overWord, t1]
    have t2 : ¬ 0 ≤ v := by omega
    rw [e]
    clear t1 e
    go_enter Tryz.func83, Tryz.ntmps83
    go_wp2_with fail
    go_ret
    exact ⟨rfl, rfl⟩
  · have t2 : 0 ≤ v := by omega
    by_cases t3 : 65535 < v
    · have e : overWord v = true := by simp [overWord, t3]
      have t4 : ¬ v ≤ 65535 := by omega
      rw [e]
      clear t1 e t3
      go_enter Tryz.func83, Tryz.ntmps83
      go_wp2_with fail
      go_ret
      exact ⟨rfl, rfl⟩
    · have e : overWord v = false := by simp [overWord]; omega
      have t4 : v ≤ 65535 := by omega
      rw [e]
      clear t1 e t3
      go_enter Tryz.func83, Tryz.ntmps83
      go_wp2_with fail
      go_ret
      exact ⟨rfl, rfl⟩
theorem rawOf_eq (t s ns nr : Int) (b : ByteArray) : (⟨#[200, 2]⟩ : ByteArray) ++ be 2 ((b.size : Int) + 12) ++ be 2 t ++ be 2 s ++ be 2 ns ++ be 2 nr ++ b = rawOf t s ns nr b := by
  have e : (strOfNums [200, 2] : ByteArray) = ⟨#[200, 2]⟩ := by decide
  rw [rawOf, e, wordsOf_cons, wordsOf_cons, wordsOf_cons, wordsOf_cons, wordsOf_cons, wordsOf_nil]
  simp only [ByteArray.append_assoc]
  congr 6
set_option maxHeartbeats 2000000 in
theorem rraw_any (t s ns nr : Int) (v : Value) (b : ByteArray) (h : (0 ≤ t ∧ t < 65536) ∧ (0 ≤ s ∧ s < 65536) ∧ (0 ≤ ns ∧ ns < 65536) ∧ (0 ≤ nr ∧ nr < 65536) ∧ b.size ≤ 65523) (hv : ∃ ao n cap, v = .slice ao n cap) (w : World) :
    Calls Tryz.prog 85 #[.agg #[.int .i64 t, .int .i64 s, .int .i64 ns, .int .i64 nr, v], .string b] w fun e w' => e = .returned (.string (rawOf t s ns nr b)) ∧ Upd [] w w' := by
  obtain ⟨ao, n, cap, rfl⟩ := hv
  obtain ⟨ht, hs, hns, hnr, hb⟩ := h
  have HE := Lib.hid (rawOf_eq t s ns nr b)
  generalize rawOf t s ns nr b = R at *
  have H0 := Lib.hid (rtwo_any ((b.size : Int) + 12) (by omega))
  have H1 := Lib.hid (rtwo_any t (by omega))
  have H2 := Lib.hid (rtwo_any s (by omega))
  have H3 := Lib.hid (rtwo_any ns (by omega))
  have H4 := Lib.hid (rtwo_any nr (by omega))
  have z0 := be_size 2 ((b.size : Int) + 12)
  have z1 := be_size 2 t
  have z2 := be_size 2 s
  have z3 := be_size 2 ns
  have z4 := be_size 2 nr
  generalize be 2 ((b.size : Int) + 12) = y0 at *
  generalize be 2 t = y1 at *
  generalize be 2 s = y2 at *
  generalize be 2 ns = y3 at *
  generalize be 2 nr = y4 at *
  have B0 := Blk.new w 24 #[.int .i64 t, .int .i64 s, .int .i64 ns, .int .i64 nr, .slice ao n cap]
  have HU := Lib.hid ((Upd.refl [] w).alloc (.cells #[.int .i64 t, .int .i64 s, .int .i64 ns, .int .i64 nr, .slice ao n cap] 24))
  go_enter Tryz.func85, Tryz.ntmps85
  go_wp2_with fail
  generalize w.alloc (.cells #[.int .i64 t, .int .i64 s, .int .i64 ns, .int .i64 nr, .slice ao n cap] 24) = w1 at *
  have hcells : ∀ W, Upd [] w1 W → W.cell? ⟨w.heap.size, 0, none⟩ = some (.int .i64 t) ∧ W.cell? ⟨w.heap.size, 1, none⟩ = some (.int .i64 s) ∧ W.cell? ⟨w.heap.size, 2, none⟩ = some (.int .i64 ns) ∧ W.cell? ⟨w.heap.size, 3, none⟩ = some (.int .i64 nr) := fun W hu =>
    ⟨(B0.upd hu (by simp)).cell 0, (B0.upd hu (by simp)).cell 1, (B0.upd hu (by simp)).cell 2, (B0.upd hu (by simp)).cell 3⟩
  have z5 : (⟨#[200, 2]⟩ : ByteArray).size = 2 := rfl
  have hw12 : IntKind.i64.wrap ((b.size : Int) + 12) = (b.size : Int) + 12 := IntWalk.i64_in _ (by omega)
  refine wp_region_facts (.pure) (trivial) [.is (.string b), .is (.int .i64 b.size), .is (.int .i64 ((b.size : Int) + 12)), .is (.string y0), .is (.string (⟨#[200, 2]⟩ ++ y0)), .is (.pointer (some ⟨w.heap.size, 0, none⟩)), .is (.int .i64 t), .is (.string y1), .is (.string (⟨#[200, 2]⟩ ++ y0 ++ y1)), .is (.pointer (some ⟨w.heap.size, 1, none⟩)), .is (.int .i64 s), .is (.string y2), .is (.string (⟨#[200, 2]⟩ ++ y0 ++ y1 ++ y2)), .is (.pointer (some ⟨w.heap.size, 2, none⟩)), .is (.int .i64 ns), .is (.string y3), .is (.string (⟨#[200, 2]⟩ ++ y0 ++ y1 ++ y2 ++ y3)), .is (.pointer (some ⟨w.heap.size, 3, none⟩)), .is (.int .i64 nr), .is (.string y4), .is (.string (⟨#[200, 2]⟩ ++ y0 ++ y1 ++ y2 ++ y3 ++ y4)), .is (.string b), .is (.string R), .is (.string R)] (by kernel_rfl) (by kernel_rfl) (by kernel_rfl) (by kernel_rfl) ?_ ?_
  · refine Steps.cons ?_ (Steps.cons ?_ (Steps.cons ?_ (Steps.cons ?_ (Steps.cons ?_ (Steps.cons ?_ (Steps.cons ?_ (Steps.cons ?_ (Steps.cons ?_ (Steps.cons ?_ (Steps.cons ?_ (Steps.cons ?_ (Steps.cons ?_ (Steps.cons ?_ (Steps.cons ?_ (Steps.cons ?_ (Steps.cons ?_ (Steps.cons ?_ (Steps.cons ?_ (Steps.cons ?_ (Steps.cons ?_ (Steps.cons ?_ (Steps.cons ?_ (Steps.cons ?_ Steps.nil)))))))))))))))))))))))
    · refine step_is _ rfl ⟨_, rfl⟩ rfl (fun _ _ => trivial) ?_
      intro a W hi hF hD
      have hu := hi.upd
      have e1 : a.tmps[1]?.getD undef = _ := (ev a 1).symm.trans (hF 1 (by kernel_rfl))
      clear hF hD
      have hc := hcells W hu
      go_simp
    · refine step_is _ rfl ⟨_, rfl⟩ rfl (fun _ _ => trivial) ?_
      intro a W hi hF hD
      have hu := hi.upd
      have e5 : a.tmps[5]?.getD undef = .string b := (ev a 5).symm.trans (hD _ (Array.mem_of_getElem? (i := 0) rfl) rfl).1
      clear hF hD
      have hc := hcells W hu
      go_simp
    · refine step_is _ rfl ⟨_, rfl⟩ rfl (fun _ _ => trivial) ?_
      intro a W hi hF hD
      have hu := hi.upd
      have e6 : a.tmps[6]?.getD undef = .int .i64 b.size := (ev a 6).symm.trans (hD _ (Array.mem_of_getElem? (i := 0) rfl) rfl).1
      clear hF hD
      have hc := hcells W hu
      go_simp
    · refine step_call rfl (fun _ _ => trivial) ?_
      intro a W hi hF hD
      have hu := hi.upd
      have e7 : a.tmps[7]?.getD undef = .int .i64 ((b.size : Int) + 12) := (ev a 7).symm.trans (hD _ (Array.mem_of_getElem? (i := 0) rfl) rfl).1
      clear hF hD
      have hc := hcells W hu
      refine ⟨_, _, by (go_simp; first | done | rfl | exact ⟨rfl, rfl⟩), ?_⟩
      refine (H0.out _).mono ?_
      rintro e w2 ⟨rfl, hu2⟩
      first | exact ⟨_, rfl, hu2, rfl⟩ | (cases hu2; exact ⟨_, rfl, Upd.refl _ _, rfl⟩)
    · refine step_is _ rfl ⟨_, rfl⟩ rfl (fun _ _ => trivial) ?_
      intro a W hi hF hD
      have hu := hi.upd
      have e8 : a.tmps[8]?.getD undef = .string y0 := (ev a 8).symm.trans (hD _ (Array.mem_of_getElem? (i := 0) rfl) rfl).1
      clear hF hD
      have hc := hcells W hu
      have := run_string_add_sum (P := Tryz.prog) W ⟨#[200, 2]⟩ y0 (by omega)
      go_simp
    · refine step_is _ rfl ⟨_, rfl⟩ rfl (fun _ _ => trivial) ?_
      intro a W hi hF hD
      have hu := hi.upd
      have e2 : a.tmps[2]?.getD undef = _ := (ev a 2).symm.trans (hF 2 (by kernel_rfl))
      clear hF hD
      have hc := hcells W hu
      go_simp
    · refine step_is _ rfl ⟨_, rfl⟩ rfl (fun _ _ => trivial) ?_
      intro a W hi hF hD
      have hu := hi.upd
      have e10 : a.tmps[10]?.getD undef = .pointer (some ⟨w.heap.size, 0, none⟩) := (ev a 10).symm.trans (hD _ (Array.mem_of_getElem? (i := 0) rfl) rfl).1
      clear hF hD
      have hc := hcells W hu
      go_simp
    · refine step_call rfl (fun _ _ => trivial) ?_
      intro a W hi hF hD
      have hu := hi.upd
      have e11 : a.tmps[11]?.getD undef = .int .i64 t := (ev a 11).symm.trans (hD _ (Array.mem_of_getElem? (i := 0) rfl) rfl).1
      clear hF hD
      have hc := hcells W hu
      refine ⟨_, _, by (go_simp; first | done | rfl | exact ⟨rfl, rfl⟩), ?_⟩
      refine (H1.out _).mono ?_
      rintro e w2 ⟨rfl, hu2⟩
      first | exact ⟨_, rfl, hu2, rfl⟩ | (cases hu2; exact ⟨_, rfl, Upd.refl _ _, rfl⟩)
    · refine step_is _ rfl ⟨_, rfl⟩ rfl (fun _ _ => trivial) ?_
      intro a W hi hF hD
      have hu := hi.upd
      have e9 : a.tmps[9]?.getD undef = .string (⟨#[200, 2]⟩ ++ y0) := (ev a 9).symm.trans (hD _ (Array.mem_of_getElem? (i := 0) rfl) rfl).1
      have e12 : a.tmps[12]?.getD undef = .string y1 := (ev a 12).symm.trans (hD _ (Array.mem_of_getElem? (i := 1) rfl) rfl).1
      clear hF hD
      have hc := hcells W hu
      have := run_string_add_sum (P := Tryz.prog) W (⟨#[200, 2]⟩ ++ y0) y1 (by simp only [ByteArray.size_append]; omega)
      go_simp
    · refine step_is _ rfl ⟨_, rfl⟩ rfl (fun _ _ => trivial) ?_
      intro a W hi hF hD
      have hu := hi.upd
      have e2 : a.tmps[2]?.getD undef = _ := (ev a 2).symm.trans (hF 2 (by kernel_rfl))
      clear hF hD
      have hc := hcells W hu
      go_simp
    · refine step_is _ rfl ⟨_, rfl⟩ rfl (fun _ _ => trivial) ?_
      intro a W hi hF hD
      have hu := hi.upd
      have e14 : a.tmps[14]?.getD undef = .pointer (some ⟨w.heap.size, 1, none⟩) := (ev a 14).symm.trans (hD _ (Array.mem_of_getElem? (i := 0) rfl) rfl).1
      clear hF hD
      have hc := hcells W hu
      go_simp
    · refine step_call rfl (fun _ _ => trivial) ?_
      intro a W hi hF hD
      have hu := hi.upd
      have e15 : a.tmps[15]?.getD undef = .int .i64 s := (ev a 15).symm.trans (hD _ (Array.mem_of_getElem? (i := 0) rfl) rfl).1
      clear hF hD
      have hc := hcells W hu
      refine ⟨_, _, by (go_simp; first | done | rfl | exact ⟨rfl, rfl⟩), ?_⟩
      refine (H2.out _).mono ?_
      rintro e w2 ⟨rfl, hu2⟩
      first | exact ⟨_, rfl, hu2, rfl⟩ | (cases hu2; exact ⟨_, rfl, Upd.refl _ _, rfl⟩)
    · refine step_is _ rfl ⟨_, rfl⟩ rfl (fun _ _ => trivial) ?_
      intro a W hi hF hD
      have hu := hi.upd
      have e13 : a.tmps[13]?.getD undef = .string (⟨#[200, 2]⟩ ++ y0 ++ y1) := (ev a 13).symm.trans (hD _ (Array.mem_of_getElem? (i := 0) rfl) rfl).1
      have e16 : a.tmps[16]?.getD undef = .string y2 := (ev a 16).symm.trans (hD _ (Array.mem_of_getElem? (i := 1) rfl) rfl).1
      clear hF hD
      have hc := hcells W hu
      have := run_string_add_sum (P := Tryz.prog) W (⟨#[200, 2]⟩ ++ y0 ++ y1) y2 (by simp only [ByteArray.size_append]; omega)
      go_simp
    · refine step_is _ rfl ⟨_, rfl⟩ rfl (fun _ _ => trivial) ?_
      intro a W hi hF hD
      have hu := hi.upd
      have e2 : a.tmps[2]?.getD undef = _ := (ev a 2).symm.trans (hF 2 (by kernel_rfl))
      clear hF hD
      have hc := hcells W hu
      go_simp
    · refine step_is _ rfl ⟨_, rfl⟩ rfl (fun _ _ => trivial) ?_
      intro a W hi hF hD
      have hu := hi.upd
      have e18 : a.tmps[18]?.getD undef = .pointer (some ⟨w.heap.size, 2, none⟩) := (ev a 18).symm.trans (hD _ (Array.mem_of_getElem? (i := 0) rfl) rfl).1
      clear hF hD
      have hc := hcells W hu
      go_simp
    · refine step_call rfl (fun _ _ => trivial) ?_
      intro a W hi hF hD
      have hu := hi.upd
      have e19 : a.tmps[19]?.getD undef = .int .i64 ns := (ev a 19).symm.trans (hD _ (Array.mem_of_getElem? (i := 0) rfl) rfl).1
      clear hF hD
      have hc := hcells W hu
      refine ⟨_, _, by (go_simp; first | done | rfl | exact ⟨rfl, rfl⟩), ?_⟩
      refine (H3.out _).mono ?_
      rintro e w2 ⟨rfl, hu2⟩
      first | exact ⟨_, rfl, hu2, rfl⟩ | (cases hu2; exact ⟨_, rfl, Upd.refl _ _, rfl⟩)
    · refine step_is _ rfl ⟨_, rfl⟩ rfl (fun _ _ => trivial) ?_
      intro a W hi hF hD
      have hu := hi.upd
      have e17 : a.tmps[17]?.getD undef = .string (⟨#[200, 2]⟩ ++ y0 ++ y1 ++ y2) := (ev a 17).symm.trans (hD _ (Array.mem_of_getElem? (i := 0) rfl) rfl).1
      have e20 : a.tmps[20]?.getD undef = .string y3 := (ev a 20).symm.trans (hD _ (Array.mem_of_getElem? (i := 1) rfl) rfl).1
      clear hF hD
      have hc := hcells W hu
      have := run_string_add_sum (P := Tryz.prog) W (⟨#[200, 2]⟩ ++ y0 ++ y1 ++ y2) y3 (by simp only [ByteArray.size_append]; omega)
      go_simp
    · refine step_is _ rfl ⟨_, rfl⟩ rfl (fun _ _ => trivial) ?_
      intro a W hi hF hD
      have hu := hi.upd
      have e2 : a.tmps[2]?.getD undef = _ := (ev a 2).symm.trans (hF 2 (by kernel_rfl))
      clear hF hD
      have hc := hcells W hu
      go_simp
    · refine step_is _ rfl ⟨_, rfl⟩ rfl (fun _ _ => trivial) ?_
      intro a W hi hF hD
      have hu := hi.upd
      have e22 : a.tmps[22]?.getD undef = .pointer (some ⟨w.heap.size, 3, none⟩) := (ev a 22).symm.trans (hD _ (Array.mem_of_getElem? (i := 0) rfl) rfl).1
      clear hF hD
      have hc := hcells W hu
      go_simp
    · refine step_call rfl (fun _ _ => trivial) ?_
      intro a W hi hF hD
      have hu := hi.upd
      have e23 : a.tmps[23]?.getD undef = .int .i64 nr := (ev a 23).symm.trans (hD _ (Array.mem_of_getElem? (i := 0) rfl) rfl).1
      clear hF hD
      have hc := hcells W hu
      refine ⟨_, _, by (go_simp; first | done | rfl | exact ⟨rfl, rfl⟩), ?_⟩
      refine (H4.out _).mono ?_
      rintro e w2 ⟨rfl, hu2⟩
      first | exact ⟨_, rfl, hu2, rfl⟩ | (cases hu2; exact ⟨_, rfl, Upd.refl _ _, rfl⟩)
    · refine step_is _ rfl ⟨_, rfl⟩ rfl (fun _ _ => trivial) ?_
      intro a W hi hF hD
      have hu := hi.upd
      have e21 : a.tmps[21]?.getD undef = .string (⟨#[200, 2]⟩ ++ y0 ++ y1 ++ y2 ++ y3) := (ev a 21).symm.trans (hD _ (Array.mem_of_getElem? (i := 0) rfl) rfl).1
      have e24 : a.tmps[24]?.getD undef = .string y4 := (ev a 24).symm.trans (hD _ (Array.mem_of_getElem? (i := 1) rfl) rfl).1
      clear hF hD
      have hc := hcells W hu
      have := run_string_add_sum (P := Tryz.prog) W (⟨#[200, 2]⟩ ++ y0 ++ y1 ++ y2 ++ y3) y4 (by simp only [ByteArray.size_append]; omega)
      go_simp
    · refine step_is _ rfl ⟨_, rfl⟩ rfl (fun _ _ => trivial) ?_
      intro a W hi hF hD
      have hu := hi.upd
      have e1 : a.tmps[1]?.getD undef = _ := (ev a 1).symm.trans (hF 1 (by kernel_rfl))
      clear hF hD
      have hc := hcells W hu
      go_simp
    · refine step_is _ rfl ⟨_, rfl⟩ rfl (fun _ _ => trivial) ?_
      intro a W hi hF hD
      have hu := hi.upd
      have e25 : a.tmps[25]?.getD undef = .string (⟨#[200, 2]⟩ ++ y0 ++ y1 ++ y2 ++ y3 ++ y4) := (ev a 25).symm.trans (hD _ (Array.mem_of_getElem? (i := 0) rfl) rfl).1
      have e26 : a.tmps[26]?.getD undef = .string b := (ev a 26).symm.trans (hD _ (Array.mem_of_getElem? (i := 1) rfl) rfl).1
      clear hF hD
      have hc := hcells W hu
      have := run_string_add_sum (P := Tryz.prog) W (⟨#[200, 2]⟩ ++ y0 ++ y1 ++ y2 ++ y3 ++ y4) b (by simp only [ByteArray.size_append]; omega)
      rw [HE.out] at this
      go_simp
    · refine step_is _ rfl ⟨_, rfl⟩ rfl (fun _ _ => trivial) ?_
      intro a W hi hF hD
      have hu := hi.upd
      have e27 : a.tmps[27]?.getD undef = .string R := (ev a 27).symm.trans (hD _ (Array.mem_of_getElem? (i := 0) rfl) rfl).1
      clear hF hD
      have hc := hcells W hu
      go_simp
  intro vals W hu hv
  have v0 : vals 0 = .string b := (hv 0 (by decide)).1
  have v1 : vals 1 = .int .i64 b.size := (hv 1 (by decide)).1
  have v2 : vals 2 = .int .i64 ((b.size : Int) + 12) := (hv 2 (by decide)).1
  have v3 : vals 3 = .string y0 := (hv 3 (by decide)).1
  have v4 : vals 4 = .string (⟨#[200, 2]⟩ ++ y0) := (hv 4 (by decide)).1
  have v5 : vals 5 = .pointer (some ⟨w.heap.size, 0, none⟩) := (hv 5 (by decide)).1
  have v6 : vals 6 = .int .i64 t := (hv 6 (by decide)).1
  have v7 : vals 7 = .string y1 := (hv 7 (by decide)).1
  have v8 : vals 8 = .string (⟨#[200, 2]⟩ ++ y0 ++ y1) := (hv 8 (by decide)).1
  have v9 : vals 9 = .pointer (some ⟨w.heap.size, 1, none⟩) := (hv 9 (by decide)).1
  have v10 : vals 10 = .int .i64 s := (hv 10 (by decide)).1
  have v11 : vals 11 = .string y2 := (hv 11 (by decide)).1
  have v12 : vals 12 = .string (⟨#[200, 2]⟩ ++ y0 ++ y1 ++ y2) := (hv 12 (by decide)).1
  have v13 : vals 13 = .pointer (some ⟨w.heap.size, 2, none⟩) := (hv 13 (by decide)).1
  have v14 : vals 14 = .int .i64 ns := (hv 14 (by decide)).1
  have v15 : vals 15 = .string y3 := (hv 15 (by decide)).1
  have v16 : vals 16 = .string (⟨#[200, 2]⟩ ++ y0 ++ y1 ++ y2 ++ y3) := (hv 16 (by decide)).1
  have v17 : vals 17 = .pointer (some ⟨w.heap.size, 3, none⟩) := (hv 17 (by decide)).1
  have v18 : vals 18 = .int .i64 nr := (hv 18 (by decide)).1
  have v19 : vals 19 = .string y4 := (hv 19 (by decide)).1
  have v20 : vals 20 = .string (⟨#[200, 2]⟩ ++ y0 ++ y1 ++ y2 ++ y3 ++ y4) := (hv 20 (by decide)).1
  have v21 : vals 21 = .string b := (hv 21 (by decide)).1
  have v22 : vals 22 = .string R := (hv 22 (by decide)).1
  have v23 : vals 23 = .string R := (hv 23 (by decide)).1
  clear hv
  simp only [putAll, Act.put, Nat.zero_add, Nat.reduceAdd, v0, v1, v2, v3, v4, v5, v6, v7, v8, v9, v10, v11, v12, v13, v14, v15, v16, v17, v18, v19, v20, v21, v22, v23, List.setIfInBounds_toArray, List.set_cons_zero, List.set_cons_succ]
  clear v0 v1 v2 v3 v4 v5 v6 v7 v8 v9 v10 v11 v12 v13 v14 v15 v16 v17 v18 v19 v20 v21 v22 v23
  go_wp2_with fail
  go_ret
  exact ⟨rfl, HU.out.trans hu⟩
set_option maxHeartbeats 4000000 in
theorem rputCtl_any (c : Cm) (v : Value) (secret : ByteArray) (w : World) (hl : AvsAt w v c.l) (hs : secret.size ≤ 400000) :
    Calls Tryz.prog 10 #[c.val v, .string secret] w fun e w' => e = .returned (.tuple #[.string (putM c secret).1, .int .i64 (putM c secret).2]) ∧ Upd [] w w' := by
  obtain ⟨t, s, ns, nr, l⟩ := c
  dsimp only at hl
  obtain ⟨ao, cap, rfl, -⟩ := id hl
  obtain ⟨R, hR⟩ : ∃ R, putM ⟨t, s, ns, nr, l⟩ secret = R := ⟨_, rfl⟩
  have HR : Hid ((if ([t, s, ns, nr] : List Int).any overWord = true then ((⟨#[]⟩ : ByteArray), (1 : Int)) else if (putA l secret).2 ≠ 0 then (⟨#[]⟩, (putA l secret).2) else (rawOf t s ns nr (putA l secret).1, 0)) = R) := hR
  rw [hR]
  clear hR
  simp only [Cm.val]
  obtain ⟨n, hn⟩ : ∃ n, l.length = n := ⟨_, rfl⟩
  rw [hn] at hl ⊢
  clear hn
  have B0 := Blk.new w 24 #[.int .i64 t, .int .i64 s, .int .i64 ns, .int .i64 nr, .slice ao n cap]
  have HU := Lib.hid ((Upd.refl [] w).alloc (.cells #[.int .i64 t, .int .i64 s, .int .i64 ns, .int .i64 nr, .slice ao n cap] 24))
  have HL := Lib.hid (hl.upd HU.out)
  clear hl
  go_enter Tryz.func10, Tryz.ntmps10
  go_upto_region 1 with (fail)
  generalize w.alloc (.cells #[.int .i64 t, .int .i64 s, .int .i64 ns, .int .i64 nr, .slice ao n cap] 24) = w1 at *
  have hcells : ∀ W, Upd [] w1 W → W.cell? ⟨w.heap.size, 0, none⟩ = some (.int .i64 t) ∧ W.cell? ⟨w.heap.size, 1, none⟩ = some (.int .i64 s) ∧ W.cell? ⟨w.heap.size, 2, none⟩ = some (.int .i64 ns) ∧ W.cell? ⟨w.heap.size, 3, none⟩ = some (.int .i64 nr) ∧ W.cell? ⟨w.heap.size, 4, none⟩ = some (.slice ao n cap) := fun W hu =>
    ⟨(B0.upd hu (by simp)).cell 0, (B0.upd hu (by simp)).cell 1, (B0.upd hu (by simp)).cell 2, (B0.upd hu (by simp)).cell 3, (B0.upd hu (by simp)).cell 4⟩
  have HC := Lib.hid hcells
  have hn0 : ∀ x, overWord x = false → 0 ≤ x ∧ x < 65536 := fun x h => by simp [overWord] at h; omega
  have HN0 := Lib.hid hn0
  obtain ⟨c0, c1, c2, c3, c4⟩ := HC.out w1 (Upd.refl _ _)
  clear hcells hn0 B0
  have bad : ([t, s, ns, nr] : List Int).any overWord = true → R = (⟨#[]⟩, 1) := fun h => by
    have hr := HR.out
    rw [if_pos h] at hr
    exact hr.symm
  have HBAD := Lib.hid bad
  clear bad
  cases o1 : overWord t
  rotate_left
  · have hr := HBAD.out (by simp [o1])
    subst hr
    have HW := Lib.hid o1
    clear o1 HR HBAD
    go_wp2_with fail
    refine (rword_any _ _).mono ?_
    rintro e w2 ⟨rfl, rfl⟩
    rw [HW.out]
    go_wp2_with fail
    go_ret2
    exact ⟨rfl, HU.out⟩
  have HW1 := Lib.hid o1
  clear o1
  cases o2 : overWord s
  rotate_left
  · have hr := HBAD.out (by simp [o2])
    subst hr
    have HW := Lib.hid o2
    clear o2 HR HBAD
    go_wp2_with fail
    refine (rword_any _ _).mono ?_
    rintro e w2 ⟨rfl, rfl⟩
    rw [HW1.out]
    go_wp2_with fail
    refine (rword_any _ _).mono ?_
    rintro e w2 ⟨rfl, rfl⟩
    rw [HW.out]
    go_wp2_with fail
    go_ret2
    exact ⟨rfl, HU.out⟩
  have HW2 := Lib.hid o2
  clear o2
  cases o3 : overWord ns
  rotate_left
  · have hr := HBAD.out (by simp [o3])
    subst hr
    have HW := Lib.hid o3
    clear o3 HR HBAD
    go_wp2_with fail
    refine (rword_any _ _).mono ?_
    rintro e w2 ⟨rfl, rfl⟩
    rw [HW1.out]
    go_wp2_with fail
    refine (rword_any _ _).mono ?_
    rintro e w2 ⟨rfl, rfl⟩
    rw [HW2.out]
    go_wp2_with fail
    refine (rword_any _ _).mono ?_
    rintro e w2 ⟨rfl, rfl⟩
    rw [HW.out]
    go_wp2_with fail
    go_ret2
    exact ⟨rfl, HU.out⟩
  have HW3 := Lib.hid o3
  clear o3
  cases o4 : overWord nr
  rotate_left
  · have hr := HBAD.out (by simp [o4])
    subst hr
    have HW := Lib.hid o4
    clear o4 HR HBAD
    go_wp2_with fail
    refine (rword_any _ _).mono ?_
    rintro e w2 ⟨rfl, rfl⟩
    rw [HW1.out]
    go_wp2_with fail
    refine (rword_any _ _).mono ?_
    rintro e w2 ⟨rfl, rfl⟩
    rw [HW2.out]
    go_wp2_with fail
    refine (rword_any _ _).mono ?_
    rintro e w2 ⟨rfl, rfl⟩
    rw [HW3.out]
    go_wp2_with fail
    refine (rword_any _ _).mono ?_
    rintro e w2 ⟨rfl, rfl⟩
    rw [HW.out]
    go_wp2_with fail
    go_ret2
    exact ⟨rfl, HU.out⟩
  have HW4 := Lib.hid o4
  clear o4
  have HR1 : Hid ((if (putA l secret).2 ≠ 0 then (⟨#[]⟩, (putA l secret).2) else (rawOf t s ns nr (putA l secret).1, 0)) = R) := by
    have hr := HR.out
    rw [if_neg (by simp [HW1.out, HW2.out, HW3.out, HW4.out])] at hr
    exact hr
  have hz := putA_short l secret
  obtain ⟨q0, q1, hq⟩ : ∃ a b, putA l secret = (a, b) := ⟨_, _, rfl⟩
  rw [hq] at HR1 hz
  dsimp only at HR1 hz
  have HQ := Lib.hid hq
  clear hq HR HBAD
  go_wp2_with fail
  refine (rword_any _ _).mono ?_
  rintro e w2 ⟨rfl, rfl⟩
  rw [HW1.out]
  go_wp2_with fail
  refine (rword_any _ _).mono ?_
  rintro e w2 ⟨rfl, rfl⟩
  rw [HW2.out]
  go_wp2_with fail
  refine (rword_any _ _).mono ?_
  rintro e w2 ⟨rfl, rfl⟩
  rw [HW3.out]
  go_wp2_with fail
  refine (rword_any _ _).mono ?_
  rintro e w2 ⟨rfl, rfl⟩
  rw [HW4.out]
  go_wp2_with fail
  refine (rput18_any l _ secret _ HL.out hs).mono ?_
  rintro e w2 ⟨rfl, hu2⟩
  rw [HQ.out]
  have HU2 := Lib.hid (HU.out.trans hu2)
  clear c0 c1 c2 c3 c4
  obtain ⟨c0, c1, c2, c3, c4⟩ := HC.out w2 hu2
  clear hu2
  by_cases t5 : q1 ≠ 0
  · have hr := HR1.out
    rw [if_pos t5] at hr
    subst hr
    have t6 : (q1 != 0) = true := by simpa using t5
    clear t5 HR1
    go_wp2_with fail
    go_ret2
    exact ⟨rfl, HU2.out⟩
  · have hr := HR1.out
    rw [if_neg t5] at hr
    have HR2 := Lib.hid hr
    obtain rfl : q1 = 0 := Classical.not_not.1 t5
    have h1 := HN0.out t HW1.out
    have h2 := HN0.out s HW2.out
    have h3 := HN0.out ns HW3.out
    have h4 := HN0.out nr HW4.out
    have HRW := Lib.hid (rraw_any t s ns nr (.slice ao n cap) q0 ⟨h1, h2, h3, h4, by omega⟩ ⟨_, _, _, rfl⟩)
    rw [show rawOf t s ns nr q0 = R.1 by rw [← hr]] at HRW
    clear t5 hr HR1 h1 h2 h3 h4
    go_wp2_with fail
    refine (HRW.out _).mono ?_
    rintro e w3 ⟨rfl, hu3⟩
    go_wp2_with fail
    go_ret2
    rw [← HR2.out]
    exact ⟨rfl, HU2.out.trans hu3⟩
set_option maxHeartbeats 400000 in
theorem risCtl_any (b : ByteArray) (hb : b.size ≤ maxLen) (w : World) : Calls Tryz.prog 33 #[.string b] w fun e w' => e = .returned (.bool (isCtlB b)) ∧ w = w' := by
  simp only [maxLen] at hb
  by_cases t1 : b.size = 0
  · have e : isCtlB b = false := by simp [isCtlB, t1]
    rw [e]
    have t2 : ¬ (0 : Int) < b.size := by omega
    clear e t1
    go_enter Tryz.func33, Tryz.ntmps33
    go_wp2_with fail
    go_ret
    exact ⟨rfl, rfl⟩
  · have t2 : (0 : Int) < b.size := by omega
    have q0 := byte_get b 0 (by omega)
    have HE : Hid (isCtlB b = decide (128 ≤ byte b 0)) := by show _ = _; simp [isCtlB, t1]
    rw [HE.out]
    clear HE t1
    generalize byte b 0 = y at *
    go_enter Tryz.func33, Tryz.ntmps33
    go_wp2_with fail
    go_ret
    exact ⟨rfl, rfl⟩
end Go.Proofs.YtglafpdealjlnaaGreat
namespace Go.Proofs.YtglafpdealjlnaaGreat
open Go.RowKit
set_option linter.unusedSimpArgs false
set_option linter.unusedVariables false
set_option maxRecDepth 100000

theorem ctl5 {W : World} {g : Nat} {a b c d e : Value} (h : Blk W g 24 #[a, b, c, d, e]) :
    W.cell? ⟨g, 0, none⟩ = some a ∧ W.cell? ⟨g, 1, none⟩ = some b ∧ W.cell? ⟨g, 2, none⟩ = some c ∧ W.cell? ⟨g, 3, none⟩ = some d ∧ W.cell? ⟨g, 4, none⟩ = some e ∧
    W.frozen? ⟨g, 0, none⟩ = false ∧ W.frozen? ⟨g, 1, none⟩ = false ∧ W.frozen? ⟨g, 2, none⟩ = false ∧ W.frozen? ⟨g, 3, none⟩ = false ∧ W.frozen? ⟨g, 4, none⟩ = false ∧ g < W.heap.size :=
  ⟨h.cell 0, h.cell 1, h.cell 2, h.cell 3, h.cell 4, h.frozen 0, h.frozen 1, h.frozen 2, h.frozen 3, h.frozen 4, h.lt⟩
set_option maxHeartbeats 4000000 in
theorem rgetCtl_any (b secret : ByteArray) (hb : b.size ≤ 400000) (hs : secret.size ≤ 400000) (w : World) :
    Calls Tryz.prog 12 #[.string b, .string secret] w (GotM w (getM b secret)) := by
  obtain ⟨R, hR⟩ : ∃ R, getM b secret = R := ⟨_, rfl⟩
  rw [hR]
  have HR := Lib.hid hR
  clear hR
  simp only [getM] at HR
  by_cases t1 : b.size < 12
  · have hr := HR.out
    rw [if_pos t1] at hr
    subst hr
    clear HR
    have t1' : (b.size : Int) < 12 := by omega
    go_enter Tryz.func12, Tryz.ntmps12
    go_wp2_with fail
    exact bodyPost_ret (v := .tuple #[.agg #[.int .i64 0, .int .i64 0, .int .i64 0, .int .i64 0, .slice none 0 0], .int .i64 5]) (by simp [results, Tryz.results12, go_sem]) rfl ⟨⟨.slice none 0 0, [], rfl, Own.nil _ _ _, by simp, (by repeat (first | refine Upd.setCell _ ?_ (.inr (by simp)) | refine Upd.alloc _ ?_ | exact Upd.refl _ _))⟩⟩
  have HR1 : Hid (_ = R) := (if_neg t1).symm.trans HR.out
  have t1' : ¬ (b.size : Int) < 12 := by omega
  clear HR
  have hbyte : ∀ i (h : i < b.size), ((b[i].toNat : Int)) = byte b i := byte_get b
  have q0 := hbyte 0 (by omega)
  have q1 := hbyte 1 (by omega)
  have hb0 := byte_bd b 0
  have hb1 := byte_bd b 1
  have hn := num_bd b 2 2
  have HN2 := Lib.hid (rnum_any b 2 (by simp only [maxLen]; omega) (by omega))
  have HN4 := Lib.hid (rnum_any b 4 (by simp only [maxLen]; omega) (by omega))
  have HN6 := Lib.hid (rnum_any b 6 (by simp only [maxLen]; omega) (by omega))
  have HN8 := Lib.hid (rnum_any b 8 (by simp only [maxLen]; omega) (by omega))
  have HN10 := Lib.hid (rnum_any b 10 (by simp only [maxLen]; omega) (by omega))
  obtain ⟨n, hnn⟩ : ∃ n : Nat, num b 2 2 = n := Int.eq_ofNat_of_zero_le hn.1
  rw [hnn] at HR1 HN2 hn
  rw [Int.toNat_natCast] at HR1
  generalize byte b 0 = y0 at *
  generalize byte b 1 = y1 at *
  clear hbyte hnn
  by_cases t2 : y0 ≠ 200 ∨ y1 ≠ 2
  · have hr := HR1.out
    rw [if_pos t2] at hr
    subst hr
    clear HR1
    by_cases t3 : y0 = 200
    · have t4 : y1 ≠ 2 := by rcases t2 with h | h; exact absurd t3 h; exact h
      have r0 : (y0 != 200) = false := by simpa using t3
      have r1 : (y1 != 2) = true := by simpa using t4
      clear t2 t3 t4
      go_enter Tryz.func12, Tryz.ntmps12
      go_wp2_with fail
      exact bodyPost_ret (v := .tuple #[.agg #[.int .i64 0, .int .i64 0, .int .i64 0, .int .i64 0, .slice none 0 0], .int .i64 4]) (by simp [results, Tryz.results12, go_sem]) rfl ⟨⟨.slice none 0 0, [], rfl, Own.nil _ _ _, by simp, (by repeat (first | refine Upd.setCell _ ?_ (.inr (by simp)) | refine Upd.alloc _ ?_ | exact Upd.refl _ _))⟩⟩
    · have r0 : (y0 != 200) = true := by simpa using t3
      clear t2 t3
      go_enter Tryz.func12, Tryz.ntmps12
      go_wp2_with fail
      exact bodyPost_ret (v := .tuple #[.agg #[.int .i64 0, .int .i64 0, .int .i64 0, .int .i64 0, .slice none 0 0], .int .i64 4]) (by simp [results, Tryz.results12, go_sem]) rfl ⟨⟨.slice none 0 0, [], rfl, Own.nil _ _ _, by simp, (by repeat (first | refine Upd.setCell _ ?_ (.inr (by simp)) | refine Upd.alloc _ ?_ | exact Upd.refl _ _))⟩⟩
  have HR2 : Hid (_ = R) := (if_neg t2).symm.trans HR1.out
  have r0 : (y0 != 200) = false := by simp; exact Classical.byContradiction fun h => t2 (.inl h)
  have r1 : (y1 != 2) = false := by simp; exact Classical.byContradiction fun h => t2 (.inr h)
  clear HR1 t2
  have HA0 := Lib.hid (Blk.new w 24 #[.int .i64 0, .int .i64 0, .int .i64 0, .int .i64 0, .slice none 0 0])
  have U0 := Lib.hid ((Upd.refl [] w).alloc (Obj.cells #[.int .i64 0, .int .i64 0, .int .i64 0, .int .i64 0, .slice none 0 0] 24))
  go_enter Tryz.func12, Tryz.ntmps12
  go_upto_region 6 with ((refine (HN2.out _).mono ?_; rintro e w1 ⟨rfl, hu1⟩; have HU1 := Lib.hid (U0.out.trans hu1); have HA1 := Lib.hid (HA0.out.upd hu1 (by simp)); obtain ⟨c0, c1, c2, c3, c4, f0, f1, f2, f3, f4, hlt⟩ := ctl5 HA1.out; clear hu1))
  clear U0 HA0
  by_cases t3 : (b.size : Int) < n
  · have hr := HR2.out
    rw [if_pos t3] at hr
    subst hr
    clear HR2
    go_wp2_with fail
    exact bodyPost_ret (v := .tuple #[.agg #[.int .i64 0, .int .i64 0, .int .i64 0, .int .i64 0, .slice none 0 0], .int .i64 5]) (by simp [results, Tryz.results12, go_sem, c0, c1, c2, c3, c4]) rfl ⟨⟨.slice none 0 0, [], rfl, Own.nil _ _ _, by simp, (by repeat (with_reducible first | refine Upd.setCell _ ?_ (.inr (by simp)) | exact HU1.out))⟩⟩
  have HR3 : Hid (_ = R) := (if_neg t3).symm.trans HR2.out
  clear HR2
  by_cases t4 : (n : Int) < 12
  · have hr := HR3.out
    rw [if_pos t4] at hr
    subst hr
    clear HR3
    go_wp2_with fail
    exact bodyPost_ret (v := .tuple #[.agg #[.int .i64 0, .int .i64 0, .int .i64 0, .int .i64 0, .slice none 0 0], .int .i64 4]) (by simp [results, Tryz.results12, go_sem, c0, c1, c2, c3, c4]) rfl ⟨⟨.slice none 0 0, [], rfl, Own.nil _ _ _, by simp, (by repeat (with_reducible first | refine Upd.setCell _ ?_ (.inr (by simp)) | exact HU1.out))⟩⟩
  have HR4 : Hid (_ = R) := (if_neg t4).symm.trans HR3.out
  clear HR3
  obtain ⟨x, hx⟩ : ∃ x, b.extract 12 n = x := ⟨_, rfl⟩
  have hxz : x.size ≤ 400000 := by rw [← hx, ByteArray.size_extract]; omega
  rw [hx] at HR4
  have HG := Lib.hid (fun W => rget18_any x secret W hxz hs)
  obtain ⟨l, e, hle⟩ : ∃ l e, getA x secret = (l, e) := ⟨_, _, rfl⟩
  rw [hle] at HR4 HG
  dsimp only at HR4
  clear hle hxz c0 c1 c2 c3 c4 f0 f1 f2 f3 f4 hlt
  go_wp2_with fail
  refine (HG.out _).mono ?_
  rintro e w2 ⟨⟨v, own, rfl, ho, hin, hu2⟩⟩
  have HU2 := Lib.hid (HU1.out.trans hu2)
  have HA2 := Lib.hid (HA1.out.upd hu2 (by simp))
  have hlt1 := HA1.out.lt
  have HIN : Hid (∀ k ∈ own, w.heap.size < k) := fun k hk => by have := hin k hk; omega
  have HO := Lib.hid ho
  obtain ⟨ao, cap, rfl, -, -⟩ := ho.shape
  dsimp only
  clear ho hin hu2 hlt1
  obtain ⟨ln, hln⟩ : ∃ ln, l.length = ln := ⟨_, rfl⟩
  have HLN := Lib.hid hln
  dsimp only at HO
  rw [hln] at HO ⊢
  clear hln
  by_cases t5 : e ≠ 0
  · have hr := HR4.out
    rw [if_pos t5] at hr
    subst hr
    clear HR4
    have t5' : (e != 0) = true := by simpa using t5
    obtain ⟨c0, c1, c2, c3, c4, f0, f1, f2, f3, f4, hlt⟩ := ctl5 HA2.out
    go_wp2_with fail
    exact bodyPost_ret (v := .tuple #[.agg #[.int .i64 0, .int .i64 0, .int .i64 0, .int .i64 0, .slice none 0 0], .int .i64 e]) (by simp [results, Tryz.results12, go_sem, c0, c1, c2, c3, c4]) rfl ⟨⟨.slice none 0 0, [], rfl, Own.nil _ _ _, by simp, (by repeat (with_reducible first | refine Upd.setCell _ ?_ (.inr (by simp)) | exact HU2.out))⟩⟩
  obtain rfl : e = 0 := Classical.not_not.1 t5
  have hr := HR4.out
  rw [if_neg (by simp)] at hr
  subst hr
  clear HR4 t5
  generalize num b 4 2 = k4 at *
  generalize num b 6 2 = k6 at *
  generalize num b 8 2 = k8 at *
  generalize num b 10 2 = k10 at *
  go_wp2_with fail
  refine (HN4.out _).mono ?_
  rintro e w3 ⟨rfl, hu3⟩
  go_wp2_with fail
  refine (HN6.out _).mono ?_
  rintro e w4 ⟨rfl, hu4⟩
  go_wp2_with fail
  refine (HN8.out _).mono ?_
  rintro e w5 ⟨rfl, hu5⟩
  go_wp2_with fail
  refine (HN10.out _).mono ?_
  rintro e w6 ⟨rfl, hu6⟩
  have hu : Upd [] w2 w6 := ((hu3.trans hu4).trans hu5).trans hu6
  have HU6 := Lib.hid (HU2.out.trans hu)
  have HA6 := Lib.hid (HA2.out.upd hu (by simp))
  have HO6 := Lib.hid (HO.out.upd hu (by simp))
  clear hu hu3 hu4 hu5 hu6
  obtain ⟨c0, c1, c2, c3, c4, f0, f1, f2, f3, f4, hlt⟩ := ctl5 HA6.out
  go_wp2_with fail
  have hne : w.heap.size ∉ own := fun h => Nat.lt_irrefl _ (HIN.out _ h)
  exact bodyPost_ret (v := .tuple #[.agg #[.int .i64 k4, .int .i64 k6, .int .i64 k8, .int .i64 k10, .slice ao ln cap], .int .i64 0]) (by simp [results, Tryz.results12, go_sem, c0, c1, c2, c3, c4]) rfl ⟨⟨_, own, rfl, (by (try rw [HLN.out]); repeat (with_reducible first | refine Own.setCell _ ?_ hne | exact HO6.out)), fun k hk => Nat.le_of_lt (HIN.out k hk), (by repeat (with_reducible first | refine Upd.setCell _ ?_ (.inr (by simp)) | exact HU6.out))⟩⟩
end Go.Proofs.YtglafpdealjlnaaGreat
