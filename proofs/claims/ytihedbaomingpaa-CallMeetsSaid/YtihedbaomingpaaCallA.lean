/- The walks of a call's small methods, of slices.Clone at values (Avp), of roles and kind. -/
import Derived.Test.YtihedbaomingpaaCallP
import Derived.Test.YtihedbaomingpaaLen
import Derived.Test.YtihedbaomingpaaMapRange
import Derived.Test.YtihedbaomingpaaRes
import Derived.Test.YtihedbaomingpaaFacts
import Derived.Lib.LazyBuf
namespace Go.Proofs.Ytihedbaomingpaa
open Go.RowKit
set_option linter.unusedSimpArgs false
set_option linter.unusedVariables false
set_option maxRecDepth 20000

set_option maxHeartbeats 400000 in
theorem cloneAvs_any (l : List Av) (v : Value) (w : World) (hl : AvsAt w v l) (hs : l.length ≤ 1000000) :
    Calls Try.prog 41 #[v] w fun e w' => ∃ u own, e = .returned u ∧ Own w' 42 5 u l.length (avCells l) own ∧ (∀ k, k ∈ own → w.heap.size ≤ k) ∧ Upd [] w w' := by
  obtain ⟨i0, hi, hz0, hz1, hz2⟩ := info_parts info_avp
  have RL := Lib.hid hl.rd
  obtain ⟨ao, cap, rfl, h1, h2, h3⟩ := id hl
  obtain ⟨n, hn⟩ : ∃ n, n = l.length := ⟨_, rfl⟩
  rw [← hn] at h1 hs
  have HN := Lib.hid hn
  simp only [← hn] at RL ⊢
  simp only [maxLen] at h2
  cases ao with
  | none =>
    have h0 : n = 0 := by
      rcases Nat.eq_zero_or_pos n with h | h
      · exact h
      · obtain ⟨q, hq, _⟩ := h3 0 l[0] (by simp)
        cases hq
    have hl0 : l = [] := List.eq_nil_of_length_eq_zero (by omega)
    clear h3 hl hn
    subst h0 hl0
    have heq := fun W : World => Lib.run_eql_slice_nil (P := Try.prog) W 30 42 none 0 cap 0 0 Try.underlying30
    go_enter Try.func41, Try.ntmps41
    go_wp2_with fail
    go_ret
    exact ⟨_, [], rfl, by simpa [avCells] using Own.nil _ _ _, by simp, Upd.refl _ _⟩
  | some q =>
    clear h3 hl hn
    have HO : Hid (Own (w.alloc (.cells #[] 42)) 42 5 (.slice (some ⟨w.heap.size, 0, none⟩) 0 0) 0 [] [w.heap.size]) := ⟨by simp, .inr ⟨w.heap.size, 0, 0, #[], rfl, rfl, Blk.new _ _ _, by simp, by simp, by simp, by simp⟩⟩
    have heq := fun W : World => Lib.run_eql_slice_nil (P := Try.prog) W 30 42 (some q) n cap 0 0 Try.underlying30
    have HR : Hid (Rd (w.alloc (.cells #[] 42)) 5 (.slice (some q) n cap) n (avCells l)) := RL.out.upd ((Upd.refl _ _).alloc _)
    go_enter Try.func41, Try.ntmps41
    go_wp2_with (first
      | (at_builtin; refine wpList_append_Rd _ rfl (.tmp 5) (.tmp 6) 30 rfl 42 i0 _ 5 40 Try.underlying30 hi hz0 hz1 hz2 rfl (by decide) _ 0 _ _ (by simp [Act.eval]) HO.out _ n (avCells l) (by simp [Act.eval]) HR.out (by simp only [maxLen]; omega) (by omega) ?_; intro ao1 cap1 w5 own1 ho1 hin1 hu5; have HO1 := Lib.hid ho1; have HIN1 := Lib.hid hin1; have HU5 := Lib.hid hu5; clear ho1 hin1 hu5; generalize Value.slice ao1 (0 + n) cap1 = v5 at *))
    go_ret
    refine ⟨_, own1, rfl, ?_, fun k hk => ?_, ?_⟩
    · have h := HO1.out
      simpa using h
    · rcases HIN1.out k hk with h | h
      · simp at h; omega
      · simp at h; omega
    · exact ((Upd.refl [] w).alloc _).trans' HU5.out (fun y hy => .inr (by simp at hy; omega))

set_option maxHeartbeats 400000 in
theorem none_any (b : Nat) (k : K) (w : World) (h : CallAt w b k) : Calls Try.prog 27 #[.pointer (some ⟨b, 0, none⟩)] w fun e w' => e = .returned (.bool (!k.made)) ∧ w = w' := by
  obtain ⟨vw, vg, ow, og, hb, -, -⟩ := h
  have g4 := hb.cell 4
  simp [K.cells] at g4
  clear hb
  go_enter Try.func27, Try.ntmps27
  go_wp2_with fail
  go_ret
  exact ⟨rfl, rfl⟩
set_option maxHeartbeats 400000 in
theorem none_nil (w : World) : Calls Try.prog 27 #[.pointer none] w fun e w' => e = .returned (.bool true) ∧ w = w' := by
  go_enter Try.func27, Try.ntmps27
  go_wp2_with fail
  go_ret
  exact ⟨rfl, rfl⟩
set_option maxHeartbeats 400000 in
theorem own_any (b : Nat) (k : K) (w : World) (h : CallAt w b k) : Calls Try.prog 30 #[.pointer (some ⟨b, 0, none⟩)] w fun e w' => e = .returned k.own.agg ∧ Upd [] w w' := by
  obtain ⟨vw, vg, ow, og, hb, -, -⟩ := h
  have g0 := hb.cell 0
  simp [K.cells] at g0
  have hlt := hb.lt
  clear hb
  obtain ⟨x, hx⟩ : ∃ x, be 2 k.id = x := ⟨_, rfl⟩
  have hn := fun W => num_ok 14 k.id 2 (by omega) W
  simp only [Av.agg, numAv, hx] at hn
  have HN := Lib.hid hn
  have HE : Hid (k.own.agg = .agg #[.bool true, .bool false, .int .i64 0, .int .i64 14, .string x]) := by rw [← hx]; rfl
  clear hx hn
  rw [HE.out]
  go_enter Try.func30, Try.ntmps30
  go_wp2_with fail
  refine (HN.out _).mono ?_
  rintro e w1 ⟨rfl, hu1⟩
  have b0 := (Blk.new w 42 #[.bool false, .bool false, .int .i64 0, .int .i64 0, .string ⟨#[]⟩]).upd hu1 (by simp)
  have HB := Lib.hid b0
  have HU : Hid (Upd [] w w1) := ((Upd.refl _ _).alloc _).trans hu1
  have s0 := b0.cell 0
  have s1 := b0.cell 1
  have s2 := b0.cell 2
  have s3 := b0.cell 3
  have s4 := b0.cell 4
  have u0 := b0.frozen 0
  have u1 := b0.frozen 1
  have u2 := b0.frozen 2
  have u3 := b0.frozen 3
  have u4 := b0.frozen 4
  simp at s0 s1 s2 s3 s4
  clear b0 hu1
  go_wp2_with fail
  have RR := ((((HB.out.set_ 0 (.bool true)).set_ 1 (.bool false)).set_ 2 (.int .i64 0)).set_ 3 (.int .i64 14)).set_ 4 (.string x)
  have q0 := RR.cell 0
  have q1 := RR.cell 1
  have q2 := RR.cell 2
  have q3 := RR.cell 3
  have q4 := RR.cell 4
  simp at q0 q1 q2 q3 q4
  exact bodyPost_ret (v := .agg #[.bool true, .bool false, .int .i64 0, .int .i64 14, .string x]) (by simp [results, Try.results30, go_sem, q0, q1, q2, q3, q4]) rfl ⟨rfl, ((((HU.out.setCell _ (.inr (Nat.le_refl _))).setCell _ (.inr (Nat.le_refl _))).setCell _ (.inr (Nat.le_refl _))).setCell _ (.inr (Nat.le_refl _))).setCell _ (.inr (Nat.le_refl _))⟩

/-! ### roles and kind -/
def encRole (k : Int × Bool) : Value := .agg #[.int .i64 k.1, .bool k.2]
theorem encRole_inj (a b : Int × Bool) (h : encRole a = encRole b) : a = b := by
  obtain ⟨a1, a2⟩ := a
  obtain ⟨b1, b2⟩ := b
  simp only [encRole, Value.agg.injEq, Array.mk.injEq, List.cons.injEq, Value.int.injEq, Value.bool.injEq, true_and, and_true] at h
  rw [h.1, h.2]
theorem role_key : KeyEnc (Int × Bool) Try.prog 65 encRole := by
  refine KeyEnc.of_struct Try.underlying65 (fun _ _ => rfl) ?_ ?_ ?_
  · rintro ⟨a1, a2⟩ ⟨b1, b2⟩ w
    show (Op.equalIn (9999 + 1) 65 (.agg #[.int .i64 a1, .bool a2]) (.agg #[.int .i64 b1, .bool b2])).run Try.prog w = _
    rw [run_equalIn_struct w 9999 65 _ _ (by kernel_rfl) (by kernel_rfl)]
    go_simp
    by_cases h1 : a1 = b1 <;> by_cases h2 : a2 = b2 <;> simp [h1, h2]
  · rintro em ⟨a1, a2⟩ w
    show (Instr.checkKey em (9999 + 1) 65 (.agg #[.int .i64 a1, .bool a2])).run Try.prog w = _
    rw [Instr.checkKey]
    simp only [Sem.run_bind, run_underlying Try.underlying65, Result.andThen_ok]
    have hk : ∀ (x : Int) (u : World), (Instr.checkKey em (9998 + 1) 3 (.int .i64 x)).run Try.prog u = .ok () u := fun x u => MapKept.run_checkKey Try.underlying3 (by simp [MapKept.IsKey]) em 9998
    have hk' : ∀ (x : Int) (u : World), (Instr.checkKey em 9999 3 (.int .i64 x)).run Try.prog u = .ok () u := hk
    have hb : ∀ (x : Bool) (u : World), (Instr.checkKey em (9998 + 1) 4 (.bool x)).run Try.prog u = .ok () u := fun x u => MapKept.run_checkKey Try.underlying4 (by simp [MapKept.IsKey]) em 9998
    have hb' : ∀ (x : Bool) (u : World), (Instr.checkKey em 9999 4 (.bool x)).run Try.prog u = .ok () u := hb
    clear hk hb
    simp [hk', hb', part, run_underlying Try.underlying3, run_underlying Try.underlying4, Result.andThen]
  · rintro ⟨a1, a2⟩
    show Instr.sameBits 10000 (.agg #[.int .i64 a1, .bool a2]) (.agg #[.int .i64 a1, .bool a2]) = true
    simp [Instr.sameBits]
def roleTabV : List ((Int × Bool) × Value) := roleTab.map fun p => (p.1, .int .i64 p.2)
theorem roleTabV_fun : ∀ p ∈ roleTabV, ∀ q ∈ roleTabV, p.1 = q.1 → p.2 = q.2 := by
  have h : ∀ p ∈ roleTab, ∀ q ∈ roleTab, p.1 = q.1 → p.2 = q.2 := by decide +kernel
  intro p hp q hq e
  obtain ⟨p', hp', rfl⟩ := List.mem_map.1 hp
  obtain ⟨q', hq', rfl⟩ := List.mem_map.1 hq
  simp only at e
  simp only [h p' hp' q' hq' e]

set_option maxHeartbeats 2000000 in
set_option maxRecDepth 100000 in
theorem roles_any (w : World) : Calls Try.prog 31 #[] w fun e w' => e = .returned (.map (some w.heap.size)) ∧ TabM encRole w' w.heap.size roleTabV ∧ Upd [] w w' := by
  go_enter Try.func31, Try.ntmps31
  go_wp2_with fail
  refine wp_region_lit (tab := roleTabV) (enc := encRole) encRole_inj (by kernel_rfl) (by kernel_rfl) (by kernel_rfl) (by decide) ?_ ?_
  · refine ⟨?_, ?_, ?_, ?_, ?_, ?_, ?_, ?_, ?_, ?_, ?_, ?_, ?_, ?_, ?_, trivial⟩
    · refine lit_make rfl ⟨_, rfl⟩ ?_
      intro a W
      rfl
    · refine lit_pure (by decide) (encRole (10, false)) rfl ⟨_, rfl⟩ (fun _ => rfl) ?_
      intro a W _
      go_simp
      first | done | rfl
    · refine lit_put encRole_inj roleTabV_fun role_key Try.underlying62 0 (10, false) (.int .i64 (1)) rfl rfl rfl ⟨_, Array.mem_of_getElem? (i := 0) rfl, rfl, rfl⟩ ?_
      intro a W hD
      have e0 : a.tmps[1]?.getD undef = .map (some w.heap.size) := (ev a 1).symm.trans (hD _ (Array.mem_of_getElem? (i := 0) rfl) rfl).1
      have e1 : a.tmps[2]?.getD undef = encRole (10, false) := (ev a 2).symm.trans (hD _ (Array.mem_of_getElem? (i := 1) rfl) rfl)
      clear hD
      simp only [execOp, Act.eval, Array.getD_eq_getD_getElem?, e0, e1]
      first | done | rfl
    · refine lit_pure (by decide) (encRole (11, false)) rfl ⟨_, rfl⟩ (fun _ => rfl) ?_
      intro a W _
      go_simp
      first | done | rfl
    · refine lit_put encRole_inj roleTabV_fun role_key Try.underlying62 1 (11, false) (.int .i64 (2)) rfl rfl rfl ⟨_, Array.mem_of_getElem? (i := 0) rfl, rfl, rfl⟩ ?_
      intro a W hD
      have e0 : a.tmps[1]?.getD undef = .map (some w.heap.size) := (ev a 1).symm.trans (hD _ (Array.mem_of_getElem? (i := 0) rfl) rfl).1
      have e1 : a.tmps[3]?.getD undef = encRole (11, false) := (ev a 3).symm.trans (hD _ (Array.mem_of_getElem? (i := 1) rfl) rfl)
      clear hD
      simp only [execOp, Act.eval, Array.getD_eq_getD_getElem?, e0, e1]
      first | done | rfl
    · refine lit_pure (by decide) (encRole (12, false)) rfl ⟨_, rfl⟩ (fun _ => rfl) ?_
      intro a W _
      go_simp
      first | done | rfl
    · refine lit_put encRole_inj roleTabV_fun role_key Try.underlying62 2 (12, false) (.int .i64 (3)) rfl rfl rfl ⟨_, Array.mem_of_getElem? (i := 0) rfl, rfl, rfl⟩ ?_
      intro a W hD
      have e0 : a.tmps[1]?.getD undef = .map (some w.heap.size) := (ev a 1).symm.trans (hD _ (Array.mem_of_getElem? (i := 0) rfl) rfl).1
      have e1 : a.tmps[4]?.getD undef = encRole (12, false) := (ev a 4).symm.trans (hD _ (Array.mem_of_getElem? (i := 1) rfl) rfl)
      clear hD
      simp only [execOp, Act.eval, Array.getD_eq_getD_getElem?, e0, e1]
      first | done | rfl
    · refine lit_pure (by decide) (encRole (7, true)) rfl ⟨_, rfl⟩ (fun _ => rfl) ?_
      intro a W _
      go_simp
      first | done | rfl
    · refine lit_put encRole_inj roleTabV_fun role_key Try.underlying62 3 (7, true) (.int .i64 (1)) rfl rfl rfl ⟨_, Array.mem_of_getElem? (i := 0) rfl, rfl, rfl⟩ ?_
      intro a W hD
      have e0 : a.tmps[1]?.getD undef = .map (some w.heap.size) := (ev a 1).symm.trans (hD _ (Array.mem_of_getElem? (i := 0) rfl) rfl).1
      have e1 : a.tmps[5]?.getD undef = encRole (7, true) := (ev a 5).symm.trans (hD _ (Array.mem_of_getElem? (i := 1) rfl) rfl)
      clear hD
      simp only [execOp, Act.eval, Array.getD_eq_getD_getElem?, e0, e1]
      first | done | rfl
    · refine lit_pure (by decide) (encRole (8, true)) rfl ⟨_, rfl⟩ (fun _ => rfl) ?_
      intro a W _
      go_simp
      first | done | rfl
    · refine lit_put encRole_inj roleTabV_fun role_key Try.underlying62 4 (8, true) (.int .i64 (2)) rfl rfl rfl ⟨_, Array.mem_of_getElem? (i := 0) rfl, rfl, rfl⟩ ?_
      intro a W hD
      have e0 : a.tmps[1]?.getD undef = .map (some w.heap.size) := (ev a 1).symm.trans (hD _ (Array.mem_of_getElem? (i := 0) rfl) rfl).1
      have e1 : a.tmps[6]?.getD undef = encRole (8, true) := (ev a 6).symm.trans (hD _ (Array.mem_of_getElem? (i := 1) rfl) rfl)
      clear hD
      simp only [execOp, Act.eval, Array.getD_eq_getD_getElem?, e0, e1]
      first | done | rfl
    · refine lit_pure (by decide) (encRole (9, true)) rfl ⟨_, rfl⟩ (fun _ => rfl) ?_
      intro a W _
      go_simp
      first | done | rfl
    · refine lit_put encRole_inj roleTabV_fun role_key Try.underlying62 5 (9, true) (.int .i64 (3)) rfl rfl rfl ⟨_, Array.mem_of_getElem? (i := 0) rfl, rfl, rfl⟩ ?_
      intro a W hD
      have e0 : a.tmps[1]?.getD undef = .map (some w.heap.size) := (ev a 1).symm.trans (hD _ (Array.mem_of_getElem? (i := 0) rfl) rfl).1
      have e1 : a.tmps[7]?.getD undef = encRole (9, true) := (ev a 7).symm.trans (hD _ (Array.mem_of_getElem? (i := 1) rfl) rfl)
      clear hD
      simp only [execOp, Act.eval, Array.getD_eq_getD_getElem?, e0, e1]
      first | done | rfl
    · refine lit_pure (by decide) (.map (some w.heap.size)) rfl ⟨_, rfl⟩ (fun _ => rfl) ?_
      intro a W hD
      have e0 : a.tmps[1]?.getD undef = .map (some w.heap.size) := (ev a 1).symm.trans (hD _ (Array.mem_of_getElem? (i := 0) rfl) rfl).1
      clear hD
      go_simp
    · refine lit_pure (by decide) (.map (some w.heap.size)) rfl ⟨_, rfl⟩ (fun _ => rfl) ?_
      intro a W hD
      have e0 : a.tmps[8]?.getD undef = .map (some w.heap.size) := (ev a 8).symm.trans (hD _ (Array.mem_of_getElem? (i := 0) rfl) rfl)
      clear hD
      go_simp
  intro vals W hu htab hv
  have v13 : vals 13 = _ := hv 13 (by decide) (by decide)
  have v14 : vals 14 = _ := hv 14 (by decide) (by decide)
  clear hv
  simp only [putAll, Act.put, Nat.zero_add, Nat.reduceAdd, v13, v14, List.setIfInBounds_toArray, List.set_cons_zero, List.set_cons_succ]
  clear v13 v14
  have HT := Lib.hid htab
  have HU := Lib.hid hu
  clear htab hu
  go_wp2_with fail
  go_ret
  exact ⟨rfl, HT.out, HU.out⟩
end Go.Proofs.Ytihedbaomingpaa
