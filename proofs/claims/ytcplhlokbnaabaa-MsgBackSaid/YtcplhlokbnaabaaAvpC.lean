/- The walks of avp.two, num, flags, content. -/
import Derived.Test.YtcplhlokbnaabaaAvpN
import Derived.Test.YtcplhlokbnaabaaVec
import Derived.Test.YtcplhlokbnaabaaDigK
namespace Go.Proofs.Ytcplhlokbnaabaa
open Go.RowKit
set_option linter.unusedSimpArgs false
set_option linter.unusedVariables false
set_option maxRecDepth 20000

set_option maxHeartbeats 400000 in
theorem avpTwo_ok (v : Int) (hv : 0 ≤ v ∧ v < 65536) (w : World) :
    Calls Try.prog 44 #[.int .i64 v] w fun e w' => e = .returned (.string (be 2 v)) ∧ Upd [] w w' := by
  have H := Lib.hid (wirePut_ok v 2 (by omega) (by omega))
  clear hv
  generalize be 2 v = b at *
  go_enter Try.func44, Try.ntmps44
  go_wp2_with fail
  refine (H.out _).mono ?_
  rintro e w' ⟨rfl, hu⟩
  go_wp2_with fail
  go_ret
  exact ⟨rfl, hu⟩
set_option maxHeartbeats 400000 in
theorem avpNum_any (s : ByteArray) (i : Nat) (hs : s.size ≤ maxLen) (h : i + 2 ≤ s.size) (w : World) :
    Calls Try.prog 50 #[.string s, .int .i64 i] w fun e w' => e = .returned (.int .i64 (num s i 2)) ∧ w = w' := by
  have H := Lib.hid (wireGet_ok s i 2 (by omega) hs h)
  clear hs h
  go_enter Try.func50, Try.ntmps50
  go_wp2_with fail
  refine (H.out _).mono ?_
  rintro e w' ⟨rfl, rfl⟩
  go_wp2_with fail
  go_ret
  exact ⟨rfl, rfl⟩

def flagsA (a : Av) : Int := (if a.must = true then 32768 else 0) + (if a.hidden = true then 16384 else 0)
theorem flagsA_bd (a : Av) : 0 ≤ flagsA a ∧ flagsA a ≤ 49152 ∧ flagsA a % 16384 = 0 := by unfold flagsA; split <;> split <;> decide
set_option maxHeartbeats 400000 in
theorem avpFlags_any (a : Av) (w : World) :
    Calls Try.prog 45 #[a.agg] w fun e w' => e = .returned (.int .i64 (flagsA a)) ∧ Upd [] w w' := by
  obtain ⟨mu, hi, ve, k, s⟩ := a
  have o1 : bits .or .i64 0 32768 = 32768 := by decide
  have o2 : bits .or .i64 32768 16384 = 49152 := by decide
  have o3 : bits .or .i64 0 16384 = 16384 := by decide
  simp only [Av.agg, flagsA]
  cases mu <;> cases hi
  all_goals
    go_enter Try.func45, Try.ntmps45
    go_wp2_with fail
    go_ret
    refine ⟨?_, (Upd.refl _ _).alloc _⟩
    first | rfl | (simp [o1, o2, o3])

/-- What stands behind a value's head. -/
def contentA (a : Av) (ahead : List Av) (secret : ByteArray) : ByteArray × Int :=
  if ¬ ((0 ≤ a.vendor ∧ a.vendor ≤ 65535) ∧ (0 ≤ a.kind ∧ a.kind ≤ 65535)) then (⟨#[]⟩, 1)
  else if 1000 < a.val.size then (⟨#[]⟩, 2)
  else if a.hidden = false then (a.val, 0)
  else if secret.size = 0 then (⟨#[]⟩, 30)
  else if (vec ahead).2 = false then (⟨#[]⟩, 40)
  else (maskB false a.kind secret (vec ahead).1 (be 2 a.val.size ++ a.val), 0)

set_option maxHeartbeats 2000000 in
theorem content_any (a : Av) (l : List Av) (v : Value) (secret : ByteArray) (w : World) (hl : AvsAt w v l) (hs : secret.size ≤ 400000) (hvz : (vec l).1.size ≤ 400000) :
    Calls Try.prog 42 #[a.agg, v, .string secret] w fun e w' => e = .returned (.tuple #[.string (contentA a l secret).1, .int .i64 (contentA a l secret).2]) ∧ Upd [] w w' := by
  obtain ⟨ao, cap, rfl, _⟩ := id hl
  have HL := Lib.hid hl
  obtain ⟨mu, hi, ve, k, s⟩ := a
  obtain ⟨R, hR⟩ : ∃ R, contentA ⟨mu, hi, ve, k, s⟩ l secret = R := ⟨_, rfl⟩
  have HR := Lib.hid hR
  rw [hR]
  simp only [Av.agg]
  obtain ⟨n, hn⟩ : ∃ n, l.length = n := ⟨_, rfl⟩
  rw [hn]
  have HN := Lib.hid hn
  clear hR hl hn
  simp only [contentA] at HR
  have U0 : Upd [] w (w.alloc (Obj.cells #[Value.bool mu, Value.bool hi, Value.int IntKind.i64 ve, Value.int IntKind.i64 k, Value.string s] 27)) := (Upd.refl _ _).alloc _
  have B0 := Blk.new w 27 #[Value.bool mu, Value.bool hi, Value.int IntKind.i64 ve, Value.int IntKind.i64 k, Value.string s]
  by_cases t1 : ¬ ((0 ≤ ve ∧ ve ≤ 65535) ∧ (0 ≤ k ∧ k ≤ 65535))
  · have hr := HR.out
    rw [if_pos t1] at hr
    subst hr
    clear HR
    by_cases t2 : 0 ≤ ve ∧ ve ≤ 65535
    · have q1 : (decide (0 ≤ ve) && decide (ve ≤ 65535)) = true := by simp [t2]
      have q2 : (decide (0 ≤ k) && decide (k ≤ 65535)) = false := by
        by_cases h : (0 ≤ k ∧ k ≤ 65535)
        · exact absurd ⟨t2, h⟩ t1
        · simp; omega
      clear t1 t2
      go_enter Try.func42, Try.ntmps42
      go_wp2_with fail
      refine (avpIn_any _ _ _ _).mono ?_
      rintro e w' ⟨rfl, rfl⟩
      rw [q1]
      go_wp2_with fail
      refine (avpIn_any _ _ _ _).mono ?_
      rintro e w' ⟨rfl, rfl⟩
      rw [q2]
      go_wp2_with fail
      go_ret2
      exact ⟨rfl, U0⟩
    · have q1 : (decide (0 ≤ ve) && decide (ve ≤ 65535)) = false := by simp; omega
      clear t1 t2
      go_enter Try.func42, Try.ntmps42
      go_wp2_with fail
      refine (avpIn_any _ _ _ _).mono ?_
      rintro e w' ⟨rfl, rfl⟩
      rw [q1]
      go_wp2_with fail
      go_ret2
      exact ⟨rfl, U0⟩
  have t1' := Classical.not_not.1 t1
  have q1 : (decide (0 ≤ ve) && decide (ve ≤ 65535)) = true := by simp [t1'.1]
  have q2 : (decide (0 ≤ k) && decide (k ≤ 65535)) = true := by simp [t1'.2]
  have hk := t1'.2
  have HR2 : Hid (_ = R) := (if_neg t1).symm.trans HR.out
  clear HR t1 t1'
  by_cases t2 : 1000 < s.size
  · have hr := HR2.out
    rw [if_pos t2] at hr
    subst hr
    clear HR2
    go_enter Try.func42, Try.ntmps42
    go_wp2_with fail
    refine (avpIn_any _ _ _ _).mono ?_
    rintro e w' ⟨rfl, rfl⟩
    rw [q1]
    go_wp2_with fail
    refine (avpIn_any _ _ _ _).mono ?_
    rintro e w' ⟨rfl, rfl⟩
    rw [q2]
    go_wp2_with fail
    go_ret2
    exact ⟨rfl, U0⟩
  have t2' : ¬ (1000 : Int) < s.size := by omega
  have HR3 : Hid (_ = R) := (if_neg t2).symm.trans HR2.out
  clear HR2
  cases hi
  · have hr := HR3.out
    rw [if_pos rfl] at hr
    subst hr
    clear HR3
    go_enter Try.func42, Try.ntmps42
    go_wp2_with fail
    refine (avpIn_any _ _ _ _).mono ?_
    rintro e w' ⟨rfl, rfl⟩
    rw [q1]
    go_wp2_with fail
    refine (avpIn_any _ _ _ _).mono ?_
    rintro e w' ⟨rfl, rfl⟩
    rw [q2]
    go_wp2_with fail
    go_ret2
    exact ⟨rfl, U0⟩
  have HR4 : Hid (_ = R) := (if_neg (by simp)).symm.trans HR3.out
  clear HR3
  by_cases t3 : secret.size = 0
  · have hr := HR4.out
    rw [if_pos t3] at hr
    subst hr
    clear HR4
    have e0 := str_empty_t t3
    clear t3
    go_enter Try.func42, Try.ntmps42
    go_wp2_with fail
    refine (avpIn_any _ _ _ _).mono ?_
    rintro e w' ⟨rfl, rfl⟩
    rw [q1]
    go_wp2_with fail
    refine (avpIn_any _ _ _ _).mono ?_
    rintro e w' ⟨rfl, rfl⟩
    rw [q2]
    go_wp2_with fail
    go_ret2
    exact ⟨rfl, U0⟩
  have HR5 : Hid (_ = R) := (if_neg t3).symm.trans HR4.out
  have e0 := str_empty_f t3
  clear HR4 t3
  have HV := Lib.hid (vector_any l (.slice ao n cap))
  obtain ⟨vv, vb, hvv⟩ : ∃ vv vb, vec l = (vv, vb) := ⟨_, _, rfl⟩
  rw [hvv] at HR5 HV hvz
  dsimp only at HR5 HV hvz
  clear hvv
  cases vb
  · have hr := HR5.out
    rw [if_pos rfl] at hr
    subst hr
    clear HR5
    go_enter Try.func42, Try.ntmps42
    go_wp2_with fail
    refine (avpIn_any _ _ _ _).mono ?_
    rintro e w' ⟨rfl, rfl⟩
    rw [q1]
    go_wp2_with fail
    refine (avpIn_any _ _ _ _).mono ?_
    rintro e w' ⟨rfl, rfl⟩
    rw [q2]
    go_wp2_with fail
    refine (HV.out _ ((by rw [← HN.out]; exact HL.out : AvsAt w (.slice ao n cap) l).upd U0)).mono ?_
    rintro e w' ⟨rfl, hu⟩
    go_wp2_with fail
    go_ret2
    exact ⟨rfl, U0.trans hu⟩
  have HR6 : Hid (_ = R) := (if_neg (by simp)).symm.trans HR5.out
  clear HR5
  go_enter Try.func42, Try.ntmps42
  go_wp2_with fail
  refine (avpIn_any _ _ _ _).mono ?_
  rintro e w' ⟨rfl, rfl⟩
  rw [q1]
  go_wp2_with fail
  refine (avpIn_any _ _ _ _).mono ?_
  rintro e w' ⟨rfl, rfl⟩
  rw [q2]
  go_wp2_with fail
  refine (HV.out _ ((by rw [← HN.out]; exact HL.out : AvsAt w (.slice ao n cap) l).upd U0)).mono ?_
  rintro e w1 ⟨rfl, hu⟩
  have B1 := B0.upd hu (by simp)
  have U1 := Lib.hid (U0.trans hu)
  clear hu U0 B0
  go_wp2_with fail
  have HT := Lib.hid (avpTwo_ok s.size (by omega))
  have htz := be_size 2 s.size
  generalize be 2 (s.size : Int) = tw at *
  have HM := Lib.hid (mask_any k secret vv (tw ++ s) (by omega) hs hvz (by rw [ByteArray.size_append]; omega))
  generalize maskB false k secret vv (tw ++ s) = mk at *
  have hr := HR6.out
  subst hr
  clear HR6
  have hcells : ∀ W, Upd [] w1 W → W.cell? ⟨w.heap.size, 3, none⟩ = some (.int .i64 k) ∧ W.cell? ⟨w.heap.size, 4, none⟩ = some (.string s) := fun W hW => ⟨(B1.upd hW (by simp)).cell 3, (B1.upd hW (by simp)).cell 4⟩
  refine wp_region_facts (.pure) (trivial) [.is (.pointer (some ⟨w.heap.size, 3, none⟩)), .is (.int .i64 k), .is (.string secret), .is (.string vv), .is (.pointer (some ⟨w.heap.size, 4, none⟩)), .is (.string s), .is (.int .i64 s.size), .is (.string tw), .is (.pointer (some ⟨w.heap.size, 4, none⟩)), .is (.string s), .is (.string (tw ++ s)), .is (.string mk), .is (.string mk), .is (.int .i64 0)] (by kernel_rfl) (by kernel_rfl) (by kernel_rfl) (by kernel_rfl) ?_ ?_
  · refine Steps.cons ?_ (Steps.cons ?_ (Steps.cons ?_ (Steps.cons ?_ (Steps.cons ?_ (Steps.cons ?_ (Steps.cons ?_ (Steps.cons ?_ (Steps.cons ?_ (Steps.cons ?_ (Steps.cons ?_ (Steps.cons ?_ (Steps.cons ?_ (Steps.cons ?_ Steps.nil)))))))))))))
    · refine step_is _ rfl ⟨_, rfl⟩ rfl (fun _ _ => trivial) ?_
      intro a W hi hF hD
      have hu := hi.upd
      have e3 : a.tmps[3]?.getD undef = _ := (ev a 3).symm.trans (hF 3 (by kernel_rfl))
      clear hF hD
      have hc := hcells W hu
      go_simp
    · refine step_is _ rfl ⟨_, rfl⟩ rfl (fun _ _ => trivial) ?_
      intro a W hi hF hD
      have hu := hi.upd
      have e42 : a.tmps[42]?.getD undef = .pointer (some ⟨w.heap.size, 3, none⟩) := (ev a 42).symm.trans (hD _ (Array.mem_of_getElem? (i := 0) rfl) rfl).1
      clear hF hD
      have hc := hcells W hu
      go_simp
    · refine step_is _ rfl ⟨_, rfl⟩ rfl (fun _ _ => trivial) ?_
      intro a W hi hF hD
      have hu := hi.upd
      have e2 : a.tmps[2]?.getD undef = _ := (ev a 2).symm.trans (hF 2 (by kernel_rfl))
      clear hF hD
      have hc := hcells W hu
      go_simp
    · refine step_is _ rfl ⟨_, rfl⟩ rfl (fun _ _ => trivial) ?_
      intro a W hi hF hD
      have hu := hi.upd
      have e8 : a.tmps[8]?.getD undef = _ := (ev a 8).symm.trans (hF 8 (by kernel_rfl))
      clear hF hD
      have hc := hcells W hu
      go_simp
    · refine step_is _ rfl ⟨_, rfl⟩ rfl (fun _ _ => trivial) ?_
      intro a W hi hF hD
      have hu := hi.upd
      have e3 : a.tmps[3]?.getD undef = _ := (ev a 3).symm.trans (hF 3 (by kernel_rfl))
      clear hF hD
      have hc := hcells W hu
      go_simp
    · refine step_is _ rfl ⟨_, rfl⟩ rfl (fun _ _ => trivial) ?_
      intro a W hi hF hD
      have hu := hi.upd
      have e46 : a.tmps[46]?.getD undef = .pointer (some ⟨w.heap.size, 4, none⟩) := (ev a 46).symm.trans (hD _ (Array.mem_of_getElem? (i := 0) rfl) rfl).1
      clear hF hD
      have hc := hcells W hu
      go_simp
    · refine step_is _ rfl ⟨_, rfl⟩ rfl (fun _ _ => trivial) ?_
      intro a W hi hF hD
      have hu := hi.upd
      have e47 : a.tmps[47]?.getD undef = .string s := (ev a 47).symm.trans (hD _ (Array.mem_of_getElem? (i := 0) rfl) rfl).1
      clear hF hD
      have hc := hcells W hu
      go_simp
    · refine step_call rfl (fun _ _ => trivial) ?_
      intro a W hi hF hD
      have hu := hi.upd
      have e48 : a.tmps[48]?.getD undef = .int .i64 s.size := (ev a 48).symm.trans (hD _ (Array.mem_of_getElem? (i := 0) rfl) rfl).1
      clear hF hD
      have hc := hcells W hu
      refine ⟨_, _, by (go_simp; first | done | rfl | exact ⟨rfl, rfl⟩), ?_⟩
      refine (HT.out _).mono ?_
      rintro e w2 ⟨rfl, hu2⟩
      first | exact ⟨_, rfl, hu2, rfl⟩ | (cases hu2; exact ⟨_, rfl, Upd.refl _ _, rfl⟩)
    · refine step_is _ rfl ⟨_, rfl⟩ rfl (fun _ _ => trivial) ?_
      intro a W hi hF hD
      have hu := hi.upd
      have e3 : a.tmps[3]?.getD undef = _ := (ev a 3).symm.trans (hF 3 (by kernel_rfl))
      clear hF hD
      have hc := hcells W hu
      go_simp
    · refine step_is _ rfl ⟨_, rfl⟩ rfl (fun _ _ => trivial) ?_
      intro a W hi hF hD
      have hu := hi.upd
      have e50 : a.tmps[50]?.getD undef = .pointer (some ⟨w.heap.size, 4, none⟩) := (ev a 50).symm.trans (hD _ (Array.mem_of_getElem? (i := 0) rfl) rfl).1
      clear hF hD
      have hc := hcells W hu
      go_simp
    · refine step_is _ rfl ⟨_, rfl⟩ rfl (fun _ _ => trivial) ?_
      intro a W hi hF hD
      have hu := hi.upd
      have e49 : a.tmps[49]?.getD undef = .string tw := (ev a 49).symm.trans (hD _ (Array.mem_of_getElem? (i := 0) rfl) rfl).1
      have e51 : a.tmps[51]?.getD undef = .string s := (ev a 51).symm.trans (hD _ (Array.mem_of_getElem? (i := 1) rfl) rfl).1
      clear hF hD
      have hc := hcells W hu
      have := run_string_add_sum (P := Try.prog) W tw s (by omega)
      go_simp
    · refine step_call rfl (fun _ _ => trivial) ?_
      intro a W hi hF hD
      have hu := hi.upd
      have e43 : a.tmps[43]?.getD undef = .int .i64 k := (ev a 43).symm.trans (hD _ (Array.mem_of_getElem? (i := 0) rfl) rfl).1
      have e44 : a.tmps[44]?.getD undef = .string secret := (ev a 44).symm.trans (hD _ (Array.mem_of_getElem? (i := 1) rfl) rfl).1
      have e45 : a.tmps[45]?.getD undef = .string vv := (ev a 45).symm.trans (hD _ (Array.mem_of_getElem? (i := 2) rfl) rfl).1
      have e52 : a.tmps[52]?.getD undef = .string (tw ++ s) := (ev a 52).symm.trans (hD _ (Array.mem_of_getElem? (i := 3) rfl) rfl).1
      clear hF hD
      have hc := hcells W hu
      refine ⟨_, _, by (go_simp; first | done | rfl | exact ⟨rfl, rfl⟩), ?_⟩
      refine (HM.out _).mono ?_
      rintro e w2 ⟨rfl, hu2⟩
      first | exact ⟨_, rfl, hu2, rfl⟩ | (cases hu2; exact ⟨_, rfl, Upd.refl _ _, rfl⟩)
    · refine step_is _ rfl ⟨_, rfl⟩ rfl (fun _ _ => trivial) ?_
      intro a W hi hF hD
      have hu := hi.upd
      have e53 : a.tmps[53]?.getD undef = .string mk := (ev a 53).symm.trans (hD _ (Array.mem_of_getElem? (i := 0) rfl) rfl).1
      clear hF hD
      have hc := hcells W hu
      go_simp
    · refine step_is _ rfl ⟨_, rfl⟩ rfl (fun _ _ => trivial) ?_
      intro a W hi hF hD
      have hu := hi.upd
      clear hF hD
      have hc := hcells W hu
      go_simp
  intro vals W hu hv
  have v0 : vals 0 = .pointer (some ⟨w.heap.size, 3, none⟩) := (hv 0 (by decide)).1
  have v1 : vals 1 = .int .i64 k := (hv 1 (by decide)).1
  have v2 : vals 2 = .string secret := (hv 2 (by decide)).1
  have v3 : vals 3 = .string vv := (hv 3 (by decide)).1
  have v4 : vals 4 = .pointer (some ⟨w.heap.size, 4, none⟩) := (hv 4 (by decide)).1
  have v5 : vals 5 = .string s := (hv 5 (by decide)).1
  have v6 : vals 6 = .int .i64 s.size := (hv 6 (by decide)).1
  have v7 : vals 7 = .string tw := (hv 7 (by decide)).1
  have v8 : vals 8 = .pointer (some ⟨w.heap.size, 4, none⟩) := (hv 8 (by decide)).1
  have v9 : vals 9 = .string s := (hv 9 (by decide)).1
  have v10 : vals 10 = .string (tw ++ s) := (hv 10 (by decide)).1
  have v11 : vals 11 = .string mk := (hv 11 (by decide)).1
  have v12 : vals 12 = .string mk := (hv 12 (by decide)).1
  have v13 : vals 13 = .int .i64 0 := (hv 13 (by decide)).1
  clear hv
  simp only [putAll, Act.put, Nat.zero_add, Nat.reduceAdd, v0, v1, v2, v3, v4, v5, v6, v7, v8, v9, v10, v11, v12, v13, List.setIfInBounds_toArray, List.set_cons_zero, List.set_cons_succ]
  clear v0 v1 v2 v3 v4 v5 v6 v7 v8 v9 v10 v11 v12 v13
  go_wp2_with fail
  go_ret2
  exact ⟨rfl, U1.out.trans hu⟩
end Go.Proofs.Ytcplhlokbnaabaa
