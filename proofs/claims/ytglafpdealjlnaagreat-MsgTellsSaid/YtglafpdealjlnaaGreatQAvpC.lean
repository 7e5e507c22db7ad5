/- The walks of avp.two, num, flags, content. The walks of strings.Builder: copyCheck, WriteString, Len, String (turned from the kit's shelf to this program). Plain: slices cut: what stands ahead, what stands behind. No program in sight. -/
import Derived.Test.YtglafpdealjlnaaGreatProg
import Derived.Lib.Strings
import Derived.Lib.Slices
import Derived.Lib.Walk
import Derived.Lib.Builder
import Derived.Lib.AppendStr
import Derived.Lib.UnsafeStr
import Derived.WalkKit
import Derived.Laws.Externs
import Derived.Laws.IdiomCopy
import Derived.Laws.BitsLemmas
import Derived.Shelf.RegionOpenPlain
import Derived.Test.YtglafpdealjlnaaGreatQRely
import Derived.Test.YtglafpdealjlnaaGreatQVec
import Derived.Test.YtglafpdealjlnaaGreatQDigM
import Derived.Test.YtglafpdealjlnaaGreatQStr
import Derived.Test.YtglafpdealjlnaaGreatQLib
namespace Go.Proofs.YtglafpdealjlnaaGreat
open Go.RowKit
set_option linter.unusedSimpArgs false
set_option linter.unusedVariables false
set_option maxRecDepth 100000

set_option maxHeartbeats 400000 in
theorem avpTwo_ok (v : Int) (hv : 0 ≤ v ∧ v < 65536) (w : World) :
    Calls Tryz.prog 230 #[.int .i64 v] w fun e w' => e = .returned (.string (be 2 v)) ∧ Upd [] w w' := by
  have H := Lib.hid (wirePut_ok v 2 (by omega) (by omega))
  clear hv
  generalize be 2 v = b at *
  go_enter Tryz.func230, Tryz.ntmps230
  go_wp2_with fail
  refine (H.out _).mono ?_
  rintro e w' ⟨rfl, hu⟩
  go_wp2_with fail
  go_ret
  exact ⟨rfl, hu⟩
set_option maxHeartbeats 400000 in
theorem avpNum_any (s : ByteArray) (i : Nat) (hs : s.size ≤ maxLen) (h : i + 2 ≤ s.size) (w : World) :
    Calls Tryz.prog 307 #[.string s, .int .i64 i] w fun e w' => e = .returned (.int .i64 (num s i 2)) ∧ w = w' := by
  have H := Lib.hid (wireGet_ok s i 2 (by omega) hs h)
  clear hs h
  go_enter Tryz.func307, Tryz.ntmps307
  go_wp2_with fail
  refine (H.out _).mono ?_
  rintro e w' ⟨rfl, rfl⟩
  go_wp2_with fail
  go_ret
  exact ⟨rfl, rfl⟩

def flagsA (a : Av) : Int := (if a.must = true then 32768 else 0) + (if a.hidden = true then 16384 else 0)
theorem flagsA_bd (a : Av) : 0 ≤ flagsA a ∧ flagsA a ≤ 49152 ∧ flagsA a % 16384 = 0 := by unfold flagsA; split <;> split <;> decide
set_option maxHeartbeats 400000 in
theorem avpFlags_any (a : Av) (w : World) :
    Calls Tryz.prog 231 #[a.agg] w fun e w' => e = .returned (.int .i64 (flagsA a)) ∧ Upd [] w w' := by
  obtain ⟨mu, hi, ve, k, s⟩ := a
  have o1 : bits .or .i64 0 32768 = 32768 := by decide
  have o2 : bits .or .i64 32768 16384 = 49152 := by decide
  have o3 : bits .or .i64 0 16384 = 16384 := by decide
  simp only [Av.agg, flagsA]
  cases mu <;> cases hi
  all_goals
    go_enter Tryz.func231, Tryz.ntmps231
    go_wp2_with fail
    go_ret
    refine ⟨?_, (Upd.refl _ _).alloc _⟩
    first | rfl | (simp [o1, o2, o3])

/-- What stands behind a value's head. -/
def contentA (a : Av) (ahead : List Av) (secret : ByteArray) : ByteArray × Int :=
  if ¬ ((0 ≤ a.vendor ∧ a.vendor ≤ 65535) ∧ (0 ≤ a.kind ∧ a.kind ≤ 65535)) then (⟨#[]⟩, 1)
  else if 1000 < a.val.size then (⟨#[]⟩, 2)
  else if a.hidden = false then (a.val, 0)
  else if secret.size = 0 then (⟨#[]⟩, 30)
  else if (vec ahead).2 = false then (⟨#[]⟩, 40)
  else (maskB false a.kind secret (vec ahead).1 (be 2 a.val.size ++ a.val), 0)

set_option maxHeartbeats 2000000 in
theorem content_any (a : Av) (l : List Av) (v : Value) (secret : ByteArray) (w : World) (hl : AvsAt w v l) (hs : secret.size ≤ 400000) (hvz : (vec l).1.size ≤ 400000) :
    Calls Tryz.prog 228 #[a.agg, v, .string secret] w fun e w' => e = .returned (.tuple #[.string (contentA a l secret).1, .int .i64 (contentA a l secret).2]) ∧ Upd [] w w' := by
  obtain ⟨ao, cap, rfl, _⟩ := id hl
  have HL := Lib.hid hl
  obtain ⟨mu, hi, ve, k, s⟩ := a
  obtain ⟨R, hR⟩ : ∃ R, contentA ⟨mu, hi, ve, k, s⟩ l secret = R := ⟨_, rfl⟩
  have HR := Lib.hid hR
  rw [hR]
  simp only [Av.agg]
  obtain ⟨n, hn⟩ : ∃ n, l.length = n := ⟨_, rfl⟩
  rw [hn]
  have HN := Lib.hid hn
  clear hR hl hn
  simp only [contentA] at HR
  have U0 : Upd [] w (w.alloc (Obj.cells #[Value.bool mu, Value.bool hi, Value.int IntKind.i64 ve, Value.int IntKind.i64 k, Value.string s] 85)) := (Upd.refl _ _).alloc _
  have B0 := Blk.new w 85 #[Value.bool mu, Value.bool hi, Value.int IntKind.i64 ve, Value.int IntKind.i64 k, Value.string s]
  by_cases t1 : ¬ ((0 ≤ ve ∧ ve ≤ 65535) ∧ (0 ≤ k ∧ k ≤ 65535))
  · have hr := HR.out
    rw [if_pos t1] at hr
    subst hr
    clear HR
    by_cases t2 : 0 ≤ ve ∧ ve ≤ 65535
    · have q1 : (decide (0 ≤ ve) && decide (ve ≤ 65535)) = true := by simp [t2]
      have q2 : (decide (0 ≤ k) && decide (k ≤ 65535)) = false := by
        by_cases h : (0 ≤ k ∧ k ≤ 65535)
        · exact absurd ⟨t2, h⟩ t1
        · simp; omega
      clear t1 t2
      go_enter Tryz.func228, Tryz.ntmps228
      go_wp2_with fail
      refine (avpIn_any _ _ _ _).mono ?_
      rintro e w' ⟨rfl, rfl⟩
      rw [q1]
      go_wp2_with fail
      refine (avpIn_any _ _ _ _).mono ?_
      rintro e w' ⟨rfl, rfl⟩
      rw [q2]
      go_wp2_with fail
      go_ret2
      exact ⟨rfl, U0⟩
    · have q1 : (decide (0 ≤ ve) && decide (ve ≤ 65535)) = false := by simp; omega
      clear t1 t2
      go_enter Tryz.func228, Tryz.ntmps228
      go_wp2_with fail
      refine (avpIn_any _ _ _ _).mono ?_
      rintro e w' ⟨rfl, rfl⟩
      rw [q1]
      go_wp2_with fail
      go_ret2
      exact ⟨rfl, U0⟩
  have t1' := Classical.not_not.1 t1
  have q1 : (decide (0 ≤ ve) && decide (ve ≤ 65535)) = true := by simp [t1'.1]
  have q2 : (decide (0 ≤ k) && decide (k ≤ 65535)) = true := by simp [t1'.2]
  have hk := t1'.2
  have HR2 : Hid (_ = R) := (if_neg t1).symm.trans HR.out
  clear HR t1 t1'
  by_cases t2 : 1000 < s.size
  · have hr := HR2.out
    rw [if_pos t2] at hr
    subst hr
    clear HR2
    go_enter Tryz.func228, Tryz.ntmps228
    go_wp2_with fail
    refine (avpIn_any _ _ _ _).mono ?_
    rintro e w' ⟨rfl, rfl⟩
    rw [q1]
    go_wp2_with fail
    refine (avpIn_any _ _ _ _).mono ?_
    rintro e w' ⟨rfl, rfl⟩
    rw [q2]
    go_wp2_with fail
    go_ret2
    exact ⟨rfl, U0⟩
  have t2' : ¬ (1000 : Int) < s.size := by omega
  have HR3 : Hid (_ = R) := (if_neg t2).symm.trans HR2.out
  clear HR2
  cases hi
  · have hr := HR3.out
    rw [if_pos rfl] at hr
    subst hr
    clear HR3
    go_enter Tryz.func228, Tryz.ntmps228
    go_wp2_with fail
    refine (avpIn_any _ _ _ _).mono ?_
    rintro e w' ⟨rfl, rfl⟩
    rw [q1]
    go_wp2_with fail
    refine (avpIn_any _ _ _ _).mono ?_
    rintro e w' ⟨rfl, rfl⟩
    rw [q2]
    go_wp2_with fail
    go_ret2
    exact ⟨rfl, U0⟩
  have HR4 : Hid (_ = R) := (if_neg (by simp)).symm.trans HR3.out
  clear HR3
  by_cases t3 : secret.size = 0
  · have hr := HR4.out
    rw [if_pos t3] at hr
    subst hr
    clear HR4
    have e0 := str_empty_t t3
    clear t3
    go_enter Tryz.func228, Tryz.ntmps228
    go_wp2_with fail
    refine (avpIn_any _ _ _ _).mono ?_
    rintro e w' ⟨rfl, rfl⟩
    rw [q1]
    go_wp2_with fail
    refine (avpIn_any _ _ _ _).mono ?_
    rintro e w' ⟨rfl, rfl⟩
    rw [q2]
    go_wp2_with fail
    go_ret2
    exact ⟨rfl, U0⟩
  have HR5 : Hid (_ = R) := (if_neg t3).symm.trans HR4.out
  have e0 := str_empty_f t3
  clear HR4 t3
  have HV := Lib.hid (vector_any l (.slice ao n cap))
  obtain ⟨vv, vb, hvv⟩ : ∃ vv vb, vec l = (vv, vb) := ⟨_, _, rfl⟩
  rw [hvv] at HR5 HV hvz
  dsimp only at HR5 HV hvz
  clear hvv
  cases vb
  · have hr := HR5.out
    rw [if_pos rfl] at hr
    subst hr
    clear HR5
    go_enter Tryz.func228, Tryz.ntmps228
    go_wp2_with fail
    refine (avpIn_any _ _ _ _).mono ?_
    rintro e w' ⟨rfl, rfl⟩
    rw [q1]
    go_wp2_with fail
    refine (avpIn_any _ _ _ _).mono ?_
    rintro e w' ⟨rfl, rfl⟩
    rw [q2]
    go_wp2_with fail
    refine (HV.out _ ((by rw [← HN.out]; exact HL.out : AvsAt w (.slice ao n cap) l).upd U0)).mono ?_
    rintro e w' ⟨rfl, hu⟩
    go_wp2_with fail
    go_ret2
    exact ⟨rfl, U0.trans hu⟩
  have HR6 : Hid (_ = R) := (if_neg (by simp)).symm.trans HR5.out
  clear HR5
  go_enter Tryz.func228, Tryz.ntmps228
  go_wp2_with fail
  refine (avpIn_any _ _ _ _).mono ?_
  rintro e w' ⟨rfl, rfl⟩
  rw [q1]
  go_wp2_with fail
  refine (avpIn_any _ _ _ _).mono ?_
  rintro e w' ⟨rfl, rfl⟩
  rw [q2]
  go_wp2_with fail
  refine (HV.out _ ((by rw [← HN.out]; exact HL.out : AvsAt w (.slice ao n cap) l).upd U0)).mono ?_
  rintro e w1 ⟨rfl, hu⟩
  have B1 := B0.upd hu (by simp)
  have U1 := Lib.hid (U0.trans hu)
  clear hu U0 B0
  go_wp2_with fail
  have HT := Lib.hid (avpTwo_ok s.size (by omega))
  have htz := be_size 2 s.size
  generalize be 2 (s.size : Int) = tw at *
  have HM := Lib.hid (mask_any k secret vv (tw ++ s) (by omega) hs hvz (by rw [ByteArray.size_append]; omega))
  generalize maskB false k secret vv (tw ++ s) = mk at *
  have hr := HR6.out
  subst hr
  clear HR6
  have hcells : ∀ W, Upd [] w1 W → W.cell? ⟨w.heap.size, 3, none⟩ = some (.int .i64 k) ∧ W.cell? ⟨w.heap.size, 4, none⟩ = some (.string s) := fun W hW => ⟨(B1.upd hW (by simp)).cell 3, (B1.upd hW (by simp)).cell 4⟩
  refine wp_region_facts (.pure) (trivial) [.is (.pointer (some ⟨w.heap.size, 3, none⟩)), .is (.int .i64 k), .is (.string secret), .is (.string vv), .is (.pointer (some ⟨w.heap.size, 4, none⟩)), .is (.string s), .is (.int .i64 s.size), .is (.string tw), .is (.pointer (some ⟨w.heap.size, 4, none⟩)), .is (.string s), .is (.string (tw ++ s)), .is (.string mk), .is (.string mk), .is (.int .i64 0)] (by kernel_rfl) (by kernel_rfl) (by kernel_rfl) (by kernel_rfl) ?_ ?_
  · refine Steps.cons ?_ (Steps.cons ?_ (Steps.cons ?_ (Steps.cons ?_ (Steps.cons ?_ (Steps.cons ?_ (Steps.cons ?_ (Steps.cons ?_ (Steps.cons ?_ (Steps.cons ?_ (Steps.cons ?_ (Steps.cons ?_ (Steps.cons ?_ (Steps.cons ?_ Steps.nil)))))))))))))
    · refine step_is _ rfl ⟨_, rfl⟩ rfl (fun _ _ => trivial) ?_
      intro a W hi hF hD
      have hu := hi.upd
      have e3 : a.tmps[3]?.getD undef = _ := (ev a 3).symm.trans (hF 3 (by kernel_rfl))
      clear hF hD
      have hc := hcells W hu
      go_simp
    · refine step_is _ rfl ⟨_, rfl⟩ rfl (fun _ _ => trivial) ?_
      intro a W hi hF hD
      have hu := hi.upd
      have e42 : a.tmps[42]?.getD undef = .pointer (some ⟨w.heap.size, 3, none⟩) := (ev a 42).symm.trans (hD _ (Array.mem_of_getElem? (i := 0) rfl) rfl).1
      clear hF hD
      have hc := hcells W hu
      go_simp
    · refine step_is _ rfl ⟨_, rfl⟩ rfl (fun _ _ => trivial) ?_
      intro a W hi hF hD
      have hu := hi.upd
      have e2 : a.tmps[2]?.getD undef = _ := (ev a 2).symm.trans (hF 2 (by kernel_rfl))
      clear hF hD
      have hc := hcells W hu
      go_simp
    · refine step_is _ rfl ⟨_, rfl⟩ rfl (fun _ _ => trivial) ?_
      intro a W hi hF hD
      have hu := hi.upd
      have e8 : a.tmps[8]?.getD undef = _ := (ev a 8).symm.trans (hF 8 (by kernel_rfl))
      clear hF hD
      have hc := hcells W hu
      go_simp
    · refine step_is _ rfl ⟨_, rfl⟩ rfl (fun _ _ => trivial) ?_
      intro a W hi hF hD
      have hu := hi.upd
      have e3 : a.tmps[3]?.getD undef = _ := (ev a 3).symm.trans (hF 3 (by kernel_rfl))
      clear hF hD
      have hc := hcells W hu
      go_simp
    · refine step_is _ rfl ⟨_, rfl⟩ rfl (fun _ _ => trivial) ?_
      intro a W hi hF hD
      have hu := hi.upd
      have e46 : a.tmps[46]?.getD undef = .pointer (some ⟨w.heap.size, 4, none⟩) := (ev a 46).symm.trans (hD _ (Array.mem_of_getElem? (i := 0) rfl) rfl).1
      clear hF hD
      have hc := hcells W hu
      go_simp
    · refine step_is _ rfl ⟨_, rfl⟩ rfl (fun _ _ => trivial) ?_
      intro a W hi hF hD
      have hu := hi.upd
      have e47 : a.tmps[47]?.getD undef = .string s := (ev a 47).symm.trans (hD _ (Array.mem_of_getElem? (i := 0) rfl) rfl).1
      clear hF hD
      have hc := hcells W hu
      go_simp
    · refine step_call rfl (fun _ _ => trivial) ?_
      intro a W hi hF hD
      have hu := hi.upd
      have e48 : a.tmps[48]?.getD undef = .int .i64 s.size := (ev a 48).symm.trans (hD _ (Array.mem_of_getElem? (i := 0) rfl) rfl).1
      clear hF hD
      have hc := hcells W hu
      refine ⟨_, _, by (go_simp; first | done | rfl | exact ⟨rfl, rfl⟩), ?_⟩
      refine (HT.out _).mono ?_
      rintro e w2 ⟨rfl, hu2⟩
      first | exact ⟨_, rfl, hu2, rfl⟩ | (cases hu2; exact ⟨_, rfl, Upd.refl _ _, rfl⟩)
    · refine step_is _ rfl ⟨_, rfl⟩ rfl (fun _ _ => trivial) ?_
      intro a W hi hF hD
      have hu := hi.upd
      have e3 : a.tmps[3]?.getD undef = _ := (ev a 3).symm.trans (hF 3 (by kernel_rfl))
      clear hF hD
      have hc := hcells W hu
      go_simp
    · refine step_is _ rfl ⟨_, rfl⟩ rfl (fun _ _ => trivial) ?_
      intro a W hi hF hD
      have hu := hi.upd
      have e50 : a.tmps[50]?.getD undef = .pointer (some ⟨w.heap.size, 4, none⟩) := (ev a 50).symm.trans (hD _ (Array.mem_of_getElem? (i := 0) rfl) rfl).1
      clear hF hD
      have hc := hcells W hu
      go_simp
    · refine step_is _ rfl ⟨_, rfl⟩ rfl (fun _ _ => trivial) ?_
      intro a W hi hF hD
      have hu := hi.upd
      have e49 : a.tmps[49]?.getD undef = .string tw := (ev a 49).symm.trans (hD _ (Array.mem_of_getElem? (i := 0) rfl) rfl).1
      have e51 : a.tmps[51]?.getD undef = .string s := (ev a 51).symm.trans (hD _ (Array.mem_of_getElem? (i := 1) rfl) rfl).1
      clear hF hD
      have hc := hcells W hu
      have := run_string_add_sum (P := Tryz.prog) W tw s (by omega)
      go_simp
    · refine step_call rfl (fun _ _ => trivial) ?_
      intro a W hi hF hD
      have hu := hi.upd
      have e43 : a.tmps[43]?.getD undef = .int .i64 k := (ev a 43).symm.trans (hD _ (Array.mem_of_getElem? (i := 0) rfl) rfl).1
      have e44 : a.tmps[44]?.getD undef = .string secret := (ev a 44).symm.trans (hD _ (Array.mem_of_getElem? (i := 1) rfl) rfl).1
      have e45 : a.tmps[45]?.getD undef = .string vv := (ev a 45).symm.trans (hD _ (Array.mem_of_getElem? (i := 2) rfl) rfl).1
      have e52 : a.tmps[52]?.getD undef = .string (tw ++ s) := (ev a 52).symm.trans (hD _ (Array.mem_of_getElem? (i := 3) rfl) rfl).1
      clear hF hD
      have hc := hcells W hu
      refine ⟨_, _, by (go_simp; first | done | rfl | exact ⟨rfl, rfl⟩), ?_⟩
      refine (HM.out _).mono ?_
      rintro e w2 ⟨rfl, hu2⟩
      first | exact ⟨_, rfl, hu2, rfl⟩ | (cases hu2; exact ⟨_, rfl, Upd.refl _ _, rfl⟩)
    · refine step_is _ rfl ⟨_, rfl⟩ rfl (fun _ _ => trivial) ?_
      intro a W hi hF hD
      have hu := hi.upd
      have e53 : a.tmps[53]?.getD undef = .string mk := (ev a 53).symm.trans (hD _ (Array.mem_of_getElem? (i := 0) rfl) rfl).1
      clear hF hD
      have hc := hcells W hu
      go_simp
    · refine step_is _ rfl ⟨_, rfl⟩ rfl (fun _ _ => trivial) ?_
      intro a W hi hF hD
      have hu := hi.upd
      clear hF hD
      have hc := hcells W hu
      go_simp
  intro vals W hu hv
  have v0 : vals 0 = .pointer (some ⟨w.heap.size, 3, none⟩) := (hv 0 (by decide)).1
  have v1 : vals 1 = .int .i64 k := (hv 1 (by decide)).1
  have v2 : vals 2 = .string secret := (hv 2 (by decide)).1
  have v3 : vals 3 = .string vv := (hv 3 (by decide)).1
  have v4 : vals 4 = .pointer (some ⟨w.heap.size, 4, none⟩) := (hv 4 (by decide)).1
  have v5 : vals 5 = .string s := (hv 5 (by decide)).1
  have v6 : vals 6 = .int .i64 s.size := (hv 6 (by decide)).1
  have v7 : vals 7 = .string tw := (hv 7 (by decide)).1
  have v8 : vals 8 = .pointer (some ⟨w.heap.size, 4, none⟩) := (hv 8 (by decide)).1
  have v9 : vals 9 = .string s := (hv 9 (by decide)).1
  have v10 : vals 10 = .string (tw ++ s) := (hv 10 (by decide)).1
  have v11 : vals 11 = .string mk := (hv 11 (by decide)).1
  have v12 : vals 12 = .string mk := (hv 12 (by decide)).1
  have v13 : vals 13 = .int .i64 0 := (hv 13 (by decide)).1
  clear hv
  simp only [putAll, Act.put, Nat.zero_add, Nat.reduceAdd, v0, v1, v2, v3, v4, v5, v6, v7, v8, v9, v10, v11, v12, v13, List.setIfInBounds_toArray, List.set_cons_zero, List.set_cons_succ]
  clear v0 v1 v2 v3 v4 v5 v6 v7 v8 v9 v10 v11 v12 v13
  go_wp2_with fail
  go_ret2
  exact ⟨rfl, U1.out.trans hu⟩
end Go.Proofs.YtglafpdealjlnaaGreat
namespace Go.Proofs.YtglafpdealjlnaaGreat
open Go.RowKit Go.Shelf
set_option maxRecDepth 100000
set_option linter.unusedSimpArgs false
set_option linter.unusedVariables false

theorem sizeBuilder : (Tryz.prog.info? 241).map (·.size) = some 2 := by kernel_rfl
theorem liesBuilder : liesAt Tryz.prog Tryz.prog.depth 241 (2 / Tryz.prog.cellsOf 241) 0 241 1 = true := by kernel_rfl
theorem cellsByte : Tryz.prog.cellsOf 5 = 1 := by kernel_rfl

set_option maxHeartbeats 1000000 in
set_option maxRecDepth 100000 in
theorem bldCopy_used (b : Nat) (w : World) (h0 : w.cell? ⟨b, 0, none⟩ = some (.pointer (some ⟨b, 0, none⟩))) :
    Calls Tryz.prog 304 #[.pointer (some ⟨b, 0, none⟩)] w fun e w' => e = .returned (.tuple #[]) ∧ w' = w := by
  obtain ⟨j, hj, _⟩ := Option.map_eq_some_iff.1 sizeBuilder
  go_enter Tryz.func304, Tryz.ntmps304
  go_wp2
  rw [Lib.run_neq_ptr_same w _ Tryz.underlying239 hj]
  go_wp2
  go_end0
  exact ⟨rfl, rfl⟩

set_option maxHeartbeats 1000000 in
set_option maxRecDepth 100000 in
theorem bldCopy_fresh (b : Nat) (w : World) (h0 : w.cell? ⟨b, 0, none⟩ = some (.pointer none)) (hsh : w.shape? b = some (241, 2)) (hfz : w.frozen? ⟨b, 0, none⟩ = false) :
    Calls Tryz.prog 304 #[.pointer (some ⟨b, 0, none⟩)] w fun e w' => e = .returned (.tuple #[]) ∧ w' = w.setCell ⟨b, 0, none⟩ (.pointer (some ⟨b, 0, none⟩)) := by
  obtain ⟨j, hj, hjs⟩ := Option.map_eq_some_iff.1 sizeBuilder
  go_enter Tryz.func304, Tryz.ntmps304
  go_wp2
  rw [Lib.run_to_unsafe w ⟨b, 0, none⟩ Tryz.underlying239 Tryz.underlying369 hj (by rw [hjs]; decide) hsh (Nat.zero_lt_succ 1)]
  simp only [Result.andThen]
  rw [Oper.upon_value]
  go_wp2
  rw [run_callFunc_extern Tryz.func327 (by kernel_rfl) (by kernel_rfl) (by kernel_rfl) (e := Extern.AbiNoEscape.same) (by kernel_rfl)]
  rw [Lib.run_noEscape]
  simp only [Result.andThen]
  rw [Oper.upon_value]
  go_wp2
  rw [Lib.run_from_unsafe w ⟨b, 0, none⟩ Tryz.underlying369 Tryz.underlying239 hj hsh liesBuilder]
  simp only [Result.andThen]
  rw [Oper.upon_value]
  go_wp2
  go_end0
  exact ⟨rfl, rfl⟩

theorem bldCopy_any (B b : Nat) (bs : List Value) (w : World) (h : Lib.IsBuilder 241 5 B b bs w) :
    Calls Tryz.prog 304 #[.pointer (some ⟨b, 0, none⟩)] w fun e w' => e = .returned (.tuple #[]) ∧ (Lib.BuilderAt 241 5 B b (.pointer (some ⟨b, 0, none⟩)) bs w' ∧ Below B w w') := by
  rcases h with h | h
  · refine (bldCopy_fresh b w h.cell0 h.shape h.frozen0).mono ?_
    rintro e w' ⟨rfl, rfl⟩
    exact ⟨rfl, h.used _, (Below.refl B w).setCell (p := ⟨b, 0, none⟩) h.1 _⟩
  · refine (bldCopy_used b w h.cell0).mono ?_
    rintro e w' ⟨rfl, rfl⟩
    exact ⟨rfl, h, Below.refl B _⟩

set_option maxHeartbeats 1000000 in
set_option maxRecDepth 100000 in
theorem bldLen_any (B b : Nat) (bs : List Value) (w : World) (h : Lib.IsBuilder 241 5 B b bs w) :
    Calls Tryz.prog 232 #[.pointer (some ⟨b, 0, none⟩)] w fun e w' => e = .returned (.int .i64 bs.length) ∧ w = w' := by
  obtain ⟨p, hB, v, hbk, hown, hne⟩ : ∃ p, Lib.BuilderAt 241 5 B b p bs w := by
    rcases h with h | h
    · exact ⟨_, h⟩
    · exact ⟨_, h⟩
  obtain ⟨ao, cap, rfl⟩ : ∃ ao cap, v = .slice ao bs.length cap := by
    rcases hown.2 with ⟨hv, h0⟩ | ⟨g, cap, cur, hv, _⟩
    · exact ⟨none, 0, by rw [hv, h0]⟩
    · exact ⟨_, _, hv⟩
  have c1 : w.cell? ⟨b, 1, none⟩ = some (.slice ao bs.length cap) := by rw [Lib.cell_of_heap hbk]; rfl
  go_enter Tryz.func232, Tryz.ntmps232
  go_wp2
  go_ret
  exact ⟨rfl, rfl⟩

set_option maxHeartbeats 1000000 in
set_option maxRecDepth 100000 in
theorem bldWrite_any (B b : Nat) (bs : List Value) (s : ByteArray) (w : World) (h : Lib.IsBuilder 241 5 B b bs w) (hlen : bs.length + s.size ≤ 140737488355328) (hBw : B ≤ w.heap.size) :
    Calls Tryz.prog 229 #[.pointer (some ⟨b, 0, none⟩), .string s] w fun e w' => e = .returned (.tuple #[.int .i64 s.size, .nilIface]) ∧ (Lib.BuilderAt 241 5 B b (.pointer (some ⟨b, 0, none⟩)) (bs ++ Lib.strCells s) w' ∧ Below B w w') := by
  obtain ⟨i0, hi, hz0, hz1, hz2⟩ := info_parts info_u8
  go_enter Tryz.func229, Tryz.ntmps229
  go_wp2_with (go_at_call 304; refine (bldCopy_any B b bs _ h).mono ?_)
  rintro e w1 ⟨rfl, h1, hb1⟩
  obtain ⟨hB, v, hbk, hown, hne⟩ := h1
  have c0 : w1.cell? ⟨b, 0, none⟩ = some (.pointer (some ⟨b, 0, none⟩)) := by rw [Lib.cell_of_heap hbk]; rfl
  have c1 : w1.cell? ⟨b, 1, none⟩ = some v := by rw [Lib.cell_of_heap hbk]; rfl
  go_wp2_with (at_builtin; refine Lib.wpList_append_own_string _ rfl _ _ 151 9 rfl B 5 i0 Tryz.underlying151 Tryz.underlying9 hi hz0 hz1 hz2 _ _ _ rfl hown s rfl ?c3 ?c4 ?c5 ?_)
  case c3 => unfold maxLen; omega
  case c4 => omega
  case c5 => have := hb1.size; omega
  intro v' w2 hown' hgrow _
  have hlt : b < w1.heap.size := by
    rcases Nat.lt_or_ge b w1.heap.size with h' | h'
    · exact h'
    · simp [Array.getElem?_eq_none h'] at hbk
  have hb2 : w2.heap[b]? = some (.cells #[.pointer (some ⟨b, 0, none⟩), v] 241 (0, 0)) := by
    rw [hgrow.block b hlt (fun e => hne e.symm)]
    exact hbk
  have d0 : w2.cell? ⟨b, 0, none⟩ = some (.pointer (some ⟨b, 0, none⟩)) := by rw [Lib.cell_of_heap hb2]; rfl
  have d1 : w2.cell? ⟨b, 1, none⟩ = some v := by rw [Lib.cell_of_heap hb2]; rfl
  have f1 : w2.frozen? ⟨b, 1, none⟩ = false := Lib.frozen_of_heap hb2 1
  obtain ⟨ao, n', cap, rfl⟩ : ∃ ao n' cap, v' = .slice ao n' cap := by
    rcases hown'.2 with ⟨hv, _⟩ | ⟨g, cap, cur, hv, _⟩
    · exact ⟨_, _, _, hv⟩
    · exact ⟨_, _, _, hv⟩
  go_wp2
  go_ret2
  refine ⟨rfl, ?_, ?_⟩
  · exact Lib.BuilderAt.put (T := 241) (e := 5) hB hb2 (bs' := bs ++ Lib.strCells s) (by simpa [Lib.strCells_length] using hown') (by decide)
  · exact (hb1.grown hgrow (by have := hb1.size; omega) (fun k hk => (hown.lt k hk).1)).setCell (p := ⟨b, 1, none⟩) hB _

set_option maxHeartbeats 1000000 in
set_option maxRecDepth 100000 in
theorem bldString_any (B b : Nat) (s : ByteArray) (w : World) (h : Lib.IsBuilder 241 5 B b (Lib.byteCells s.data.toList) w) (h0 : s.size ≠ 0) :
    Calls Tryz.prog 233 #[.pointer (some ⟨b, 0, none⟩)] w fun e w' => e = .returned (.string s) ∧ Below B w w' := by
  obtain ⟨l, hl⟩ : ∃ l, s.data.toList = l := ⟨_, rfl⟩
  have hs : s = ⟨l.toArray⟩ := by rw [← hl]
  rw [hl] at h
  have hl0 : l.length ≠ 0 := by rw [← hl, Array.length_toList]; exact h0
  have h0' : l ≠ [] := by intro e; rw [e] at hl0; exact hl0 rfl
  rw [hs]
  clear hs hl h0
  obtain ⟨p, hB, v, hbk, hown, hne⟩ : ∃ p, Lib.BuilderAt 241 5 B b p (Lib.byteCells l) w := by
    rcases h with h | h
    · exact ⟨_, h⟩
    · exact ⟨_, h⟩
  rw [Lib.byteCells_length] at hown
  obtain ⟨g, cap, cur, rfl, hbg, hg, hnc, hcm, hcs, htake⟩ : ∃ g cap cur, v = .slice (some ⟨g, 0, none⟩) l.length cap ∧ B ≤ g ∧ w.heap[g]? = some (.cells cur 5 (0, 0)) ∧ l.length ≤ cap ∧ cap ≤ maxLen ∧ cur.size = cap * 1 ∧ cur.toList.take (l.length * 1) = Lib.byteCells l := by
    rcases hown.2 with ⟨_, hz⟩ | ⟨g, cap, cur, hv, r⟩
    · exact absurd hz hl0
    · exact ⟨g, cap, cur, hv, r⟩
  have c1 : w.drew.cell? ⟨b, 1, none⟩ = some (.slice (some ⟨g, 0, none⟩) l.length cap) := by
    have : w.drew.heap[b]? = some (.cells #[p, .slice (some ⟨g, 0, none⟩) l.length cap] 241 (0, 0)) := hbk
    rw [Lib.cell_of_heap this]; rfl
  have hSD : (Builtin.unsafeSliceData_ #[151] 350 #[.slice (some ⟨g, 0, none⟩) l.length cap]).run Tryz.prog w.drew = .ok (.pointer (some ⟨g, 0, none⟩)) w.drew :=
    Lib.run_unsafeSliceData_row _ _ _ _ _ _ (by omega)
  have hUS : (Builtin.unsafeString_ #[350, 3] 9 #[.pointer (some ⟨g, 0, none⟩), .int .i64 l.length]).run Tryz.prog w.drew = .ok (.string ⟨l.toArray⟩) (w.drew.freeze ⟨g, 0, none⟩ l.length) := by
    refine Lib.run_unsafeString_row w.drew 350 3 9 5 Tryz.underlying350 cellsByte g cur.size (by have hg' : w.drew.heap[g]? = some (.cells cur 5 (0, 0)) := hg; simp [World.shape?, hg']) l h0' (by omega) (by unfold maxLen at hcm; omega) ?_
    intro j x hx
    have := hown.cells (g := g) rfl j (.int .u8 x.toNat) (by simp [Lib.byteCells, hx])
    exact this
  have mixed : Tryz.prog.follows .mixedOrders = true := by kernel_rfl
  go_enter Tryz.func233, Tryz.ntmps233
  go_wp2
  go_region_o
  all_goals (go_wp2; go_ret; exact ⟨rfl, Lib.below_freeze (Below.drew (Below.refl B w)) (p := ⟨g, 0, none⟩) hbg _⟩)
end Go.Proofs.YtglafpdealjlnaaGreat
namespace Go.Proofs.YtglafpdealjlnaaGreat
open Go.RowKit
set_option linter.unusedSimpArgs false
set_option linter.unusedVariables false

theorem Rd.cut {w : World} {size n m : Nat} {ao : Option Addr} {c : Nat} {xs : List Value} (h : Rd w size (.slice ao n c) n xs) (hm : m ≤ n) : Rd w size (.slice ao m c) m (xs.take (m * size)) := by
  obtain ⟨ao, c, e, h1, h2, h3, h4, h5⟩ := h
  injection e with e1 e2 e3
  subst e1 e3
  have hle : m * size ≤ n * size := Nat.mul_le_mul_right _ hm
  refine ⟨_, _, rfl, by omega, h2, ?_, fun u hu => h4 u (List.mem_of_mem_take hu), fun h0 => ?_⟩
  · rw [List.length_take]; omega
  · obtain ⟨a, ha, h6⟩ := h5 (by omega)
    refine ⟨a, ha, fun j u hj => h6 j u ?_⟩
    rw [List.getElem?_take] at hj
    split at hj
    · exact hj
    · cases hj
theorem Rd.tail {w : World} {size n m : Nat} {ao : Option Addr} {c : Nat} {xs : List Value} (h : Rd w size (.slice ao n c) n xs) (hm : m ≤ n) : Rd w size (sliced ao m n c size) (n - m) (xs.drop (m * size)) := by
  obtain ⟨ao, c, e, h1, h2, h3, h4, h5⟩ := h
  injection e with e1 e2 e3
  subst e1 e3
  have hle : m * size ≤ n * size := Nat.mul_le_mul_right _ hm
  refine ⟨_, _, rfl, by omega, by omega, ?_, fun u hu => h4 u (List.mem_of_mem_drop hu), fun h0 => ?_⟩
  · rw [List.length_drop, h3, Nat.sub_mul]
  · obtain ⟨a, rfl, h6⟩ := h5 (by omega)
    rw [if_neg (by omega)]
    refine ⟨_, rfl, fun j u hj => ?_⟩
    rw [add_add]
    rw [List.getElem?_drop] at hj
    exact h6 _ u hj
theorem run_prefix {P : Program} (t : TypeId) (ht : P.underlying t = some (.slice (P.elem t))) (s : Nat) (hs : ∀ W, (sizeOf (P.elem t)).run P W = .ok s W) (a : Option Addr) (n c m : Nat) (hm : m ≤ c) (W : World) :
    (Instr.slice t (.slice a n c) none (some (.int .i64 (m : Int))) none).run P W = .ok (.slice a m c) W := by
  rw [run_slice_h W t a n c ht .i64 _ (by omega) (by omega), hs]
  cases a with
  | none => simp [sliced, Result.andThen]
  | some a => simp [sliced, Result.andThen, Addr.add]
theorem run_suffix {P : Program} (t : TypeId) (ht : P.underlying t = some (.slice (P.elem t))) (s : Nat) (hs : ∀ W, (sizeOf (P.elem t)).run P W = .ok s W) (a : Option Addr) (n c m : Nat) (hm : m ≤ n) (v : Value) (hv : v = sliced a m n c s) (W : World) :
    (Instr.slice t (.slice a n c) (some (.int .i64 (m : Int))) none none).run P W = .ok v W := by
  rw [run_slice_l W t a n c ht .i64 _ (by omega) (by omega), hs, hv]
  simp [Result.andThen]
theorem Own.rd' {w : World} {e : TypeId} {size n : Nat} {v : Value} {xs : List Value} {own : List Nat} (h : Own w e size v n xs own) (h1 : ∀ u ∈ xs, u.oneCell' = true) : Rd w size v n xs := by
  obtain ⟨hl, h⟩ := id h
  rcases h with ⟨rfl, rfl, rfl⟩ | ⟨g, off, cap, cur, rfl, rfl, hb, hnc, hcm, hsz, ht⟩
  · exact ⟨none, 0, rfl, Nat.le_refl _, by simp [maxLen], hl, h1, fun h => by omega⟩
  · refine ⟨_, cap, rfl, hnc, hcm, hl, h1, fun hn => ⟨_, rfl, fun j u hj => ?_⟩⟩
    rw [add_plain', hb.cell]
    rw [← ht, List.getElem?_take] at hj
    split at hj
    · simpa [List.getElem?_drop] using hj
    · cases hj
end Go.Proofs.YtglafpdealjlnaaGreat
