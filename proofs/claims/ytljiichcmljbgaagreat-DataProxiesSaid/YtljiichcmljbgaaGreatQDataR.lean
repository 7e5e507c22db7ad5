/- The walks of a reader's text, number, options, auth. -/
import Derived.Test.YtljiichcmljbgaaGreatQDataE
namespace Go.Proofs.YtljiichcmljbgaaGreat
open Go.RowKit
set_option linter.unusedSimpArgs false
set_option linter.unusedVariables false
set_option maxRecDepth 100000

theorem RdrAt.same {w0 w : World} {b g : Nat} {vl : Value} {l : List Av} {ok : Bool} (h : RdrAt w0 w b g vl l ok) {ok' : Bool} (e : ok = ok') : RdrAt w0 w b g vl l ok' := e ▸ h
theorem RdrAt.reads {w0 w : World} {b g : Nat} {vl : Value} {l : List Av} {ok : Bool} (h : RdrAt w0 w b g vl l ok) :
    w.cell? ⟨b, 0, none⟩ = some vl ∧ w.cell? ⟨b, 1, none⟩ = some (.map (some g)) ∧ w.cell? ⟨b, 2, none⟩ = some (.bool ok) ∧ w.frozen? ⟨b, 2, none⟩ = false ∧ b < w.heap.size :=
  ⟨h.blk.cell 0, h.blk.cell 1, h.blk.cell 2, h.blk.frozen 2, h.blk.lt⟩
theorem oneAv_t {l : List Av} {kind : Int} (h : oneAv l kind = true) : cntAv kind l = 1 ∧ txtAv l kind = (findAv kind l).1 := by
  have h1 : cntAv kind l = 1 := of_decide_eq_true h
  exact ⟨h1, if_pos h1⟩
theorem oneAv_f {l : List Av} {kind : Int} (h : oneAv l kind = false) : cntAv kind l ≠ 1 ∧ txtAv l kind = ⟨#[]⟩ := by
  have h1 : ¬ cntAv kind l = 1 := of_decide_eq_false h
  exact ⟨h1, if_neg h1⟩

set_option maxHeartbeats 1000000 in
theorem text_any (kind : Int) {w0 w : World} {b g : Nat} {vl : Value} {l : List Av} {ok : Bool} (h : RdrAt w0 w b g vl l ok) :
    Calls Tryz.prog 125 #[.pointer (some ⟨b, 0, none⟩), .int .i64 kind] w fun e w' => e = .returned (.string (txtAv l kind)) ∧ RdrAt w0 w' b g vl l (ok && oneAv l kind) ∧ Upd [b] w w' := by
  have H := Lib.hid h
  obtain ⟨r0, r1, r2, r3, r4⟩ := h.reads
  obtain ⟨ao, cap, hv, -, -, -⟩ := id h.avs
  obtain ⟨n, hn⟩ : ∃ n, n = l.length := ⟨_, rfl⟩
  rw [← hn] at hv
  subst hv
  clear h hn
  cases t : oneAv l kind with
  | true =>
    obtain ⟨t1, t2⟩ := oneAv_t t
    rw [t2]
    have T1 := Lib.hid t1
    clear t t1 t2
    go_enter Tryz.func125, Tryz.ntmps125
    go_wp2_with fail
    refine (avFind_any l _ kind _ (H.out.avs.upd H.out.upd)).mono ?_
    rintro e w1 ⟨rfl, hu1⟩
    have H1 := Lib.hid (H.out.more hu1)
    have HU1 := Lib.hid hu1
    clear r0 r1 r2 r3 r4 hu1
    obtain ⟨r0, r1, r2, r3, r4⟩ := H1.out.reads
    have hlk := H1.out.cnt.look kind
    rw [T1.out] at hlk
    go_wp2_with fail
    go_ret
    exact ⟨rfl, H1.out.same (by simp), HU1.out.more⟩
  | false =>
    obtain ⟨t1, t2⟩ := oneAv_f t
    rw [t2]
    have t3 : (((cntAv kind l : Nat) : Int) != 1) = true := by simp; omega
    have T1 := Lib.hid t1
    obtain ⟨cn, hcn⟩ : ∃ cn, cn = cntAv kind l := ⟨_, rfl⟩
    rw [← hcn] at t3
    have HCV := Lib.hid hcn
    clear t t1 t2 hcn
    go_enter Tryz.func125, Tryz.ntmps125
    go_wp2_with fail
    refine (avFind_any l _ kind _ (H.out.avs.upd H.out.upd)).mono ?_
    rintro e w1 ⟨rfl, hu1⟩
    have H1 := Lib.hid (H.out.more hu1)
    have HU1 := Lib.hid hu1
    clear r0 r1 r2 r3 r4 hu1
    obtain ⟨r0, r1, r2, r3, r4⟩ := H1.out.reads
    have hlk := H1.out.cnt.look kind
    rw [← HCV.out] at hlk
    go_wp2_with fail
    go_ret
    exact ⟨rfl, (H1.out.set false).same (by simp), (HU1.out.more).setCell _ (by simp)⟩

theorem txtAv_size (l : List Av) (kind : Int) (m : Nat) (h : ∀ t ∈ l, t.val.size ≤ m) : (txtAv l kind).size ≤ m := by
  unfold txtAv
  split
  · unfold findAv
    cases hf : l.find? (avIs kind) with
    | none => exact Nat.zero_le _
    | some a => exact h a (List.mem_of_find?_eq_some hf)
  · exact Nat.zero_le _

set_option maxHeartbeats 1000000 in
theorem number_rd (kind lo hi : Int) {w0 w : World} {b g : Nat} {vl : Value} {l : List Av} {ok : Bool} (h : RdrAt w0 w b g vl l ok) (hs : ∀ t ∈ l, t.val.size ≤ 140737488355328) :
    Calls Tryz.prog 124 #[.pointer (some ⟨b, 0, none⟩), .int .i64 kind, .int .i64 lo, .int .i64 hi] w fun e w' => e = .returned (.int .i64 (nrAv l kind)) ∧ RdrAt w0 w' b g vl l (ok && nrOk l kind lo hi) ∧ Upd [b] w w' := by
  have H := Lib.hid h
  have hz := txtAv_size l kind _ hs
  obtain ⟨s, hsv⟩ : ∃ s, s = txtAv l kind := ⟨_, rfl⟩
  obtain ⟨y, hy⟩ : ∃ y, y = nrAv l kind := ⟨_, rfl⟩
  have hyv : (valueB s).1 = y := by rw [hy, hsv, nrAv]
  rw [← hsv] at hz
  have HK : Hid (nrOk l kind lo hi = (oneAv l kind && (decide (s.size = 2) && (decide (lo ≤ y) && decide (y ≤ hi))))) := by show _ = _; rw [nrOk, hsv, hy]
  have HS := Lib.hid hsv
  rw [← hy]
  have HY := Lib.hid hyv
  have HZ := Lib.hid hz
  clear h hs hsv hy hyv hz
  by_cases t1 : s.size = 2
  · have q1 : ((s.size : Int) != 2) = false := by simp; omega
    have q1b : decide (s.size = 2) = true := by simpa using t1
    rw [q1b] at HK
    clear t1 q1b
    by_cases t2 : lo ≤ y
    · have q2 : ¬ y < lo := by omega
      have q2b : decide (lo ≤ y) = true := by simpa using t2
      rw [q2b] at HK
      clear t2 q2b
      by_cases t3 : y ≤ hi
      · have q3 : ¬ hi < y := by omega
        have q3b : decide (y ≤ hi) = true := by simpa using t3
        rw [q3b] at HK
        clear t3 q3b
        go_enter Tryz.func124, Tryz.ntmps124
        go_wp2_with fail
        refine (text_any kind H.out).mono ?_
        rintro e w1 ⟨rfl, h1, hu1⟩
        rw [← HS.out]
        have H1 := Lib.hid h1
        have HU1 := Lib.hid hu1
        clear h1 hu1
        go_wp2_with fail
        refine (value_any s (by have := HZ.out; simp only [maxLen]; omega) _).mono ?_
        rintro e w2 ⟨rfl, rfl⟩
        rw [HY.out]
        have H2 := Lib.hid H1.out
        have HU2 := Lib.hid HU1.out
        go_wp2_with fail
        go_ret
        exact ⟨rfl, H2.out.same (by rw [HK.out]; simp), HU2.out⟩
      · have q3 : hi < y := by omega
        have q3b : decide (y ≤ hi) = false := by simpa using t3
        rw [q3b] at HK
        clear t3 q3b
        go_enter Tryz.func124, Tryz.ntmps124
        go_wp2_with fail
        refine (text_any kind H.out).mono ?_
        rintro e w1 ⟨rfl, h1, hu1⟩
        rw [← HS.out]
        have H1 := Lib.hid h1
        have HU1 := Lib.hid hu1
        clear h1 hu1
        go_wp2_with fail
        refine (value_any s (by have := HZ.out; simp only [maxLen]; omega) _).mono ?_
        rintro e w2 ⟨rfl, rfl⟩
        rw [HY.out]
        have H2 := Lib.hid H1.out
        have HU2 := Lib.hid HU1.out
        obtain ⟨r0, r1, r2, r3, r4⟩ := H2.out.reads
        go_wp2_with fail
        go_ret
        exact ⟨rfl, (H2.out.set false).same (by rw [HK.out]; simp), HU2.out.setCell _ (by simp)⟩
    · have q2 : y < lo := by omega
      have q2b : decide (lo ≤ y) = false := by simpa using t2
      rw [q2b] at HK
      clear t2 q2b
      go_enter Tryz.func124, Tryz.ntmps124
      go_wp2_with fail
      refine (text_any kind H.out).mono ?_
      rintro e w1 ⟨rfl, h1, hu1⟩
      rw [← HS.out]
      have H1 := Lib.hid h1
      have HU1 := Lib.hid hu1
      clear h1 hu1
      go_wp2_with fail
      refine (value_any s (by have := HZ.out; simp only [maxLen]; omega) _).mono ?_
      rintro e w2 ⟨rfl, rfl⟩
      rw [HY.out]
      have H2 := Lib.hid H1.out
      have HU2 := Lib.hid HU1.out
      obtain ⟨r0, r1, r2, r3, r4⟩ := H2.out.reads
      go_wp2_with fail
      go_ret
      exact ⟨rfl, (H2.out.set false).same (by rw [HK.out]; simp), HU2.out.setCell _ (by simp)⟩
  · have q1 : ((s.size : Int) != 2) = true := by simp; omega
    have q1b : decide (s.size = 2) = false := by simpa using t1
    rw [q1b] at HK
    clear t1 q1b
    go_enter Tryz.func124, Tryz.ntmps124
    go_wp2_with fail
    refine (text_any kind H.out).mono ?_
    rintro e w1 ⟨rfl, h1, hu1⟩
    rw [← HS.out]
    have H1 := Lib.hid h1
    have HU1 := Lib.hid hu1
    clear h1 hu1
    go_wp2_with fail
    refine (value_any s (by have := HZ.out; simp only [maxLen]; omega) _).mono ?_
    rintro e w2 ⟨rfl, rfl⟩
    rw [HY.out]
    have H2 := Lib.hid H1.out
    have HU2 := Lib.hid HU1.out
    obtain ⟨r0, r1, r2, r3, r4⟩ := H2.out.reads
    go_wp2_with fail
    go_ret
    exact ⟨rfl, (H2.out.set false).same (by rw [HK.out]; simp), HU2.out.setCell _ (by simp)⟩

set_option maxHeartbeats 1000000 in
theorem options_rd (kind : Int) {w0 w : World} {b g : Nat} {vl : Value} {l : List Av} {ok : Bool} (h : RdrAt w0 w b g vl l ok) (hs : ∀ t ∈ l, t.val.size ≤ 140737488355328) :
    Calls Tryz.prog 32 #[.pointer (some ⟨b, 0, none⟩), .int .i64 kind] w fun e w' => ∃ u own, e = .returned u ∧ Own w' 131 2 u (osAv l kind).length (tgCells (osAv l kind)) own ∧ (∀ k, k ∈ own → w.heap.size ≤ k) ∧ RdrAt w0 w' b g vl l (ok && osOk l kind) ∧ Upd [b] w w' := by
  have H := Lib.hid h
  have hz := txtAv_size l kind _ hs
  obtain ⟨s, hsv⟩ : ∃ s, s = txtAv l kind := ⟨_, rfl⟩
  have HO : Hid (osAv l kind = (getOpts s).1) := by show _ = _; rw [osAv, hsv]
  have HK : Hid (osOk l kind = (oneAv l kind && decide ((getOpts s).2 = 0))) := by show _ = _; rw [osOk, hsv]
  rw [← hsv] at hz
  have HS := Lib.hid hsv
  have HZ := Lib.hid hz
  rw [HO.out]
  obtain ⟨r, hr⟩ : ∃ r, r = getOpts s := ⟨_, rfl⟩
  rw [← hr] at HK ⊢
  have HR := Lib.hid hr
  clear h hs hsv hz hr HO
  obtain ⟨os, er⟩ := r
  simp only at HK ⊢
  by_cases t1 : er = 0
  · subst t1
    go_enter Tryz.func32, Tryz.ntmps32
    go_wp2_with fail
    refine (text_any kind H.out).mono ?_
    rintro e w1 ⟨rfl, h1, hu1⟩
    rw [← HS.out]
    have H1 := Lib.hid h1
    have HU1 := Lib.hid hu1
    clear h1 hu1
    go_wp2_with fail
    refine (getOptions_any s HZ.out _).mono ?_
    rintro e w2 ⟨u, own, rfl, ho, hin, hu2⟩
    rw [← HR.out] at ho ⊢
    simp only at ho ⊢
    have HOW := Lib.hid ho
    have H2 := Lib.hid (H1.out.more hu2)
    have HU2 : Hid (Upd [b] w w2) := HU1.out.trans hu2.more
    have HIN := Lib.hid hin
    have hws := HU1.out.size
    clear ho hin hu2
    go_wp2_with fail
    go_ret
    exact ⟨_, own, rfl, HOW.out, fun k hk => Nat.le_trans hws (HIN.out k hk), H2.out.same (by rw [HK.out]; simp), HU2.out⟩
  · have q1 : (er != 0) = true := by simpa using t1
    have q1b : decide (er = 0) = false := by simpa using t1
    rw [q1b] at HK
    clear t1 q1b
    go_enter Tryz.func32, Tryz.ntmps32
    go_wp2_with fail
    refine (text_any kind H.out).mono ?_
    rintro e w1 ⟨rfl, h1, hu1⟩
    rw [← HS.out]
    have H1 := Lib.hid h1
    have HU1 := Lib.hid hu1
    clear h1 hu1
    go_wp2_with fail
    refine (getOptions_any s HZ.out _).mono ?_
    rintro e w2 ⟨u, own, rfl, ho, hin, hu2⟩
    rw [← HR.out] at ho ⊢
    simp only at ho ⊢
    have HOW := Lib.hid ho
    have H2 := Lib.hid (H1.out.more hu2)
    have HU2 : Hid (Upd [b] w w2) := HU1.out.trans hu2.more
    have HIN := Lib.hid hin
    have hws := HU1.out.size
    have HOL := Lib.hid ho.lt
    have HRB : Hid (∀ k, k ∈ own → k ≠ b) := fun k hk e => by
      have h5 := hin k hk
      have h6 := H1.out.blk.lt
      omega
    clear ho hin hu2
    obtain ⟨r0, r1, r2, r3, r4⟩ := H2.out.reads
    go_wp2_with fail
    go_ret
    exact ⟨_, own, rfl, HOW.out.setCell _ (by intro hk; exact HRB.out _ hk rfl), fun k hk => Nat.le_trans hws (HIN.out k hk), (H2.out.set false).same (by rw [HK.out]; simp), HU2.out.setCell _ (by simp)⟩
end Go.Proofs.YtljiichcmljbgaaGreat
