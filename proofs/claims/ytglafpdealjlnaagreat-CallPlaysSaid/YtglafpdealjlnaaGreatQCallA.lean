/- The walks of a call's small methods, of slices.Clone at values (Avp), of roles and kind. The walks of a call's kind and say. The walks of a call's say, end, Open, Close, tell. -/
import Derived.Lib.LazyBuf
import Derived.Deep.DeepCutAuto
import Derived.Test.YtglafpdealjlnaaGreatQCallP
import Derived.Test.YtglafpdealjlnaaGreatQLen
import Derived.Test.YtglafpdealjlnaaGreatQMapRange
import Derived.Test.YtglafpdealjlnaaGreatQRes
import Derived.Test.YtglafpdealjlnaaGreatQRely
namespace Go.Proofs.YtglafpdealjlnaaGreat
open Go.RowKit
set_option linter.unusedSimpArgs false
set_option linter.unusedVariables false
set_option maxRecDepth 100000

set_option maxHeartbeats 400000 in
theorem cloneAvs_any (l : List Av) (v : Value) (w : World) (hl : AvsAt w v l) (hs : l.length ≤ 1000000) :
    Calls Tryz.prog 180 #[v] w fun e w' => ∃ u own, e = .returned u ∧ Own w' 85 5 u l.length (avCells l) own ∧ (∀ k, k ∈ own → w.heap.size ≤ k) ∧ Upd [] w w' := by
  obtain ⟨i0, hi, hz0, hz1, hz2⟩ := info_parts info_avp
  have RL := Lib.hid hl.rd
  obtain ⟨ao, cap, rfl, h1, h2, h3⟩ := id hl
  obtain ⟨n, hn⟩ : ∃ n, n = l.length := ⟨_, rfl⟩
  rw [← hn] at h1 hs
  have HN := Lib.hid hn
  simp only [← hn] at RL ⊢
  simp only [maxLen] at h2
  cases ao with
  | none =>
    have h0 : n = 0 := by
      rcases Nat.eq_zero_or_pos n with h | h
      · exact h
      · obtain ⟨q, hq, _⟩ := h3 0 l[0] (by simp)
        cases hq
    have hl0 : l = [] := List.eq_nil_of_length_eq_zero (by omega)
    clear h3 hl hn
    subst h0 hl0
    have heq := fun W : World => Lib.run_eql_slice_nil (P := Tryz.prog) W 22 85 none 0 cap 0 0 Tryz.underlying22
    go_enter Tryz.func180, Tryz.ntmps180
    go_wp2_with fail
    go_ret
    exact ⟨_, [], rfl, by simpa [avCells] using Own.nil _ _ _, by simp, Upd.refl _ _⟩
  | some q =>
    clear h3 hl hn
    have HO : Hid (Own (w.alloc (.cells #[] 85)) 85 5 (.slice (some ⟨w.heap.size, 0, none⟩) 0 0) 0 [] [w.heap.size]) := ⟨by simp, .inr ⟨w.heap.size, 0, 0, #[], rfl, rfl, Blk.new _ _ _, by simp, by simp, by simp, by simp⟩⟩
    have heq := fun W : World => Lib.run_eql_slice_nil (P := Tryz.prog) W 22 85 (some q) n cap 0 0 Tryz.underlying22
    have HR : Hid (Rd (w.alloc (.cells #[] 85)) 5 (.slice (some q) n cap) n (avCells l)) := RL.out.upd ((Upd.refl _ _).alloc _)
    go_enter Tryz.func180, Tryz.ntmps180
    go_wp2_with (first
      | (at_builtin; refine wpList_append_Rd _ rfl (.tmp 5) (.tmp 6) 22 rfl 85 i0 _ 5 40 Tryz.underlying22 hi hz0 hz1 hz2 rfl (by decide) _ 0 _ _ (by simp [Act.eval]) HO.out _ n (avCells l) (by simp [Act.eval]) HR.out (by simp only [maxLen]; omega) (by omega) ?_; intro ao1 cap1 w5 own1 ho1 hin1 hu5; have HO1 := Lib.hid ho1; have HIN1 := Lib.hid hin1; have HU5 := Lib.hid hu5; clear ho1 hin1 hu5; generalize Value.slice ao1 (0 + n) cap1 = v5 at *))
    go_ret
    refine ⟨_, own1, rfl, ?_, fun k hk => ?_, ?_⟩
    · have h := HO1.out
      simpa using h
    · rcases HIN1.out k hk with h | h
      · simp at h; omega
      · simp at h; omega
    · exact ((Upd.refl [] w).alloc _).trans' HU5.out (fun y hy => .inr (by simp at hy; omega))

set_option maxHeartbeats 400000 in
theorem none_any (b : Nat) (k : K) (w : World) (h : CallAt w b k) : Calls Tryz.prog 174 #[.pointer (some ⟨b, 0, none⟩)] w fun e w' => e = .returned (.bool (!k.made)) ∧ w = w' := by
  obtain ⟨vw, vg, ow, og, hb, -, -⟩ := h
  have g4 := hb.cell 4
  simp [K.cells] at g4
  clear hb
  go_enter Tryz.func174, Tryz.ntmps174
  go_wp2_with fail
  go_ret
  exact ⟨rfl, rfl⟩
set_option maxHeartbeats 400000 in
theorem none_nil (w : World) : Calls Tryz.prog 174 #[.pointer none] w fun e w' => e = .returned (.bool true) ∧ w = w' := by
  go_enter Tryz.func174, Tryz.ntmps174
  go_wp2_with fail
  go_ret
  exact ⟨rfl, rfl⟩
set_option maxHeartbeats 400000 in
theorem own_any (b : Nat) (k : K) (w : World) (h : CallAt w b k) : Calls Tryz.prog 177 #[.pointer (some ⟨b, 0, none⟩)] w fun e w' => e = .returned k.own.agg ∧ Upd [] w w' := by
  obtain ⟨vw, vg, ow, og, hb, -, -⟩ := h
  have g0 := hb.cell 0
  simp [K.cells] at g0
  have hlt := hb.lt
  clear hb
  obtain ⟨x, hx⟩ : ∃ x, be 2 k.id = x := ⟨_, rfl⟩
  have hn := fun W => num_ok 14 k.id 2 (by omega) W
  simp only [Av.agg, numAv, hx] at hn
  have HN := Lib.hid hn
  have HE : Hid (k.own.agg = .agg #[.bool true, .bool false, .int .i64 0, .int .i64 14, .string x]) := by rw [← hx]; rfl
  clear hx hn
  rw [HE.out]
  go_enter Tryz.func177, Tryz.ntmps177
  go_wp2_with fail
  refine (HN.out _).mono ?_
  rintro e w1 ⟨rfl, hu1⟩
  have b0 := (Blk.new w 85 #[.bool false, .bool false, .int .i64 0, .int .i64 0, .string ⟨#[]⟩]).upd hu1 (by simp)
  have HB := Lib.hid b0
  have HU : Hid (Upd [] w w1) := ((Upd.refl _ _).alloc _).trans hu1
  have s0 := b0.cell 0
  have s1 := b0.cell 1
  have s2 := b0.cell 2
  have s3 := b0.cell 3
  have s4 := b0.cell 4
  have u0 := b0.frozen 0
  have u1 := b0.frozen 1
  have u2 := b0.frozen 2
  have u3 := b0.frozen 3
  have u4 := b0.frozen 4
  simp at s0 s1 s2 s3 s4
  clear b0 hu1
  go_wp2_with fail
  have RR := ((((HB.out.set_ 0 (.bool true)).set_ 1 (.bool false)).set_ 2 (.int .i64 0)).set_ 3 (.int .i64 14)).set_ 4 (.string x)
  have q0 := RR.cell 0
  have q1 := RR.cell 1
  have q2 := RR.cell 2
  have q3 := RR.cell 3
  have q4 := RR.cell 4
  simp at q0 q1 q2 q3 q4
  exact bodyPost_ret (v := .agg #[.bool true, .bool false, .int .i64 0, .int .i64 14, .string x]) (by simp [results, Tryz.results177, go_sem, q0, q1, q2, q3, q4]) rfl ⟨rfl, ((((HU.out.setCell _ (.inr (Nat.le_refl _))).setCell _ (.inr (Nat.le_refl _))).setCell _ (.inr (Nat.le_refl _))).setCell _ (.inr (Nat.le_refl _))).setCell _ (.inr (Nat.le_refl _))⟩

/-! ### roles and kind -/
def encRole (k : Int × Bool) : Value := .agg #[.int .i64 k.1, .bool k.2]
theorem encRole_inj (a b : Int × Bool) (h : encRole a = encRole b) : a = b := by
  obtain ⟨a1, a2⟩ := a
  obtain ⟨b1, b2⟩ := b
  simp only [encRole, Value.agg.injEq, Array.mk.injEq, List.cons.injEq, Value.int.injEq, Value.bool.injEq, true_and, and_true] at h
  rw [h.1, h.2]
theorem role_key : KeyEnc (Int × Bool) Tryz.prog 202 encRole := by
  refine KeyEnc.of_struct Tryz.underlying202 (fun _ _ => rfl) ?_ ?_ ?_
  · rintro ⟨a1, a2⟩ ⟨b1, b2⟩ w
    show (Op.equalIn (9999 + 1) 202 (.agg #[.int .i64 a1, .bool a2]) (.agg #[.int .i64 b1, .bool b2])).run Tryz.prog w = _
    rw [run_equalIn_struct w 9999 202 _ _ (by kernel_rfl) (by kernel_rfl)]
    go_simp
    by_cases h1 : a1 = b1 <;> by_cases h2 : a2 = b2 <;> simp [h1, h2]
  · rintro em ⟨a1, a2⟩ w
    show (Instr.checkKey em (9999 + 1) 202 (.agg #[.int .i64 a1, .bool a2])).run Tryz.prog w = _
    rw [Instr.checkKey]
    simp only [Sem.run_bind, run_underlying Tryz.underlying202, Result.andThen_ok]
    have hk : ∀ (x : Int) (u : World), (Instr.checkKey em (9998 + 1) 3 (.int .i64 x)).run Tryz.prog u = .ok () u := fun x u => MapKept.run_checkKey Tryz.underlying3 (by simp [MapKept.IsKey]) em 9998
    have hk' : ∀ (x : Int) (u : World), (Instr.checkKey em 9999 3 (.int .i64 x)).run Tryz.prog u = .ok () u := hk
    have hb : ∀ (x : Bool) (u : World), (Instr.checkKey em (9998 + 1) 4 (.bool x)).run Tryz.prog u = .ok () u := fun x u => MapKept.run_checkKey Tryz.underlying4 (by simp [MapKept.IsKey]) em 9998
    have hb' : ∀ (x : Bool) (u : World), (Instr.checkKey em 9999 4 (.bool x)).run Tryz.prog u = .ok () u := hb
    clear hk hb
    simp [hk', hb', part, run_underlying Tryz.underlying3, run_underlying Tryz.underlying4, Result.andThen]
  · rintro ⟨a1, a2⟩
    show Instr.sameBits 10000 (.agg #[.int .i64 a1, .bool a2]) (.agg #[.int .i64 a1, .bool a2]) = true
    simp [Instr.sameBits]
def roleTabV : List ((Int × Bool) × Value) := roleTab.map fun p => (p.1, .int .i64 p.2)
theorem roleTabV_fun : ∀ p ∈ roleTabV, ∀ q ∈ roleTabV, p.1 = q.1 → p.2 = q.2 := by
  have h : ∀ p ∈ roleTab, ∀ q ∈ roleTab, p.1 = q.1 → p.2 = q.2 := by decide +kernel
  intro p hp q hq e
  obtain ⟨p', hp', rfl⟩ := List.mem_map.1 hp
  obtain ⟨q', hq', rfl⟩ := List.mem_map.1 hq
  simp only at e
  simp only [h p' hp' q' hq' e]

set_option maxHeartbeats 2000000 in
set_option maxRecDepth 100000 in
theorem roles_any (w : World) : Calls Tryz.prog 186 #[] w fun e w' => e = .returned (.map (some w.heap.size)) ∧ TabM encRole w' w.heap.size roleTabV ∧ Upd [] w w' := by
  go_enter Tryz.func186, Tryz.ntmps186
  go_wp2_with fail
  refine wp_region_lit (tab := roleTabV) (enc := encRole) encRole_inj (by kernel_rfl) (by kernel_rfl) (by kernel_rfl) (by decide) ?_ ?_
  · refine ⟨?_, ?_, ?_, ?_, ?_, ?_, ?_, ?_, ?_, ?_, ?_, ?_, ?_, ?_, ?_, trivial⟩
    · refine lit_make rfl ⟨_, rfl⟩ ?_
      intro a W
      rfl
    · refine lit_pure (by decide) (encRole (10, false)) rfl ⟨_, rfl⟩ (fun _ => rfl) ?_
      intro a W _
      go_simp
      first | done | rfl
    · refine lit_put encRole_inj roleTabV_fun role_key Tryz.underlying199 0 (10, false) (.int .i64 (1)) rfl rfl rfl ⟨_, Array.mem_of_getElem? (i := 0) rfl, rfl, rfl⟩ ?_
      intro a W hD
      have e0 : a.tmps[1]?.getD undef = .map (some w.heap.size) := (ev a 1).symm.trans (hD _ (Array.mem_of_getElem? (i := 0) rfl) rfl).1
      have e1 : a.tmps[2]?.getD undef = encRole (10, false) := (ev a 2).symm.trans (hD _ (Array.mem_of_getElem? (i := 1) rfl) rfl)
      clear hD
      simp only [execOp, Act.eval, Array.getD_eq_getD_getElem?, e0, e1]
      first | done | rfl
    · refine lit_pure (by decide) (encRole (11, false)) rfl ⟨_, rfl⟩ (fun _ => rfl) ?_
      intro a W _
      go_simp
      first | done | rfl
    · refine lit_put encRole_inj roleTabV_fun role_key Tryz.underlying199 1 (11, false) (.int .i64 (2)) rfl rfl rfl ⟨_, Array.mem_of_getElem? (i := 0) rfl, rfl, rfl⟩ ?_
      intro a W hD
      have e0 : a.tmps[1]?.getD undef = .map (some w.heap.size) := (ev a 1).symm.trans (hD _ (Array.mem_of_getElem? (i := 0) rfl) rfl).1
      have e1 : a.tmps[3]?.getD undef = encRole (11, false) := (ev a 3).symm.trans (hD _ (Array.mem_of_getElem? (i := 1) rfl) rfl)
      clear hD
      simp only [execOp, Act.eval, Array.getD_eq_getD_getElem?, e0, e1]
      first | done | rfl
    · refine lit_pure (by decide) (encRole (12, false)) rfl ⟨_, rfl⟩ (fun _ => rfl) ?_
      intro a W _
      go_simp
      first | done | rfl
    · refine lit_put encRole_inj roleTabV_fun role_key Tryz.underlying199 2 (12, false) (.int .i64 (3)) rfl rfl rfl ⟨_, Array.mem_of_getElem? (i := 0) rfl, rfl, rfl⟩ ?_
      intro a W hD
      have e0 : a.tmps[1]?.getD undef = .map (some w.heap.size) := (ev a 1).symm.trans (hD _ (Array.mem_of_getElem? (i := 0) rfl) rfl).1
      have e1 : a.tmps[4]?.getD undef = encRole (12, false) := (ev a 4).symm.trans (hD _ (Array.mem_of_getElem? (i := 1) rfl) rfl)
      clear hD
      simp only [execOp, Act.eval, Array.getD_eq_getD_getElem?, e0, e1]
      first | done | rfl
    · refine lit_pure (by decide) (encRole (7, true)) rfl ⟨_, rfl⟩ (fun _ => rfl) ?_
      intro a W _
      go_simp
      first | done | rfl
    · refine lit_put encRole_inj roleTabV_fun role_key Tryz.underlying199 3 (7, true) (.int .i64 (1)) rfl rfl rfl ⟨_, Array.mem_of_getElem? (i := 0) rfl, rfl, rfl⟩ ?_
      intro a W hD
      have e0 : a.tmps[1]?.getD undef = .map (some w.heap.size) := (ev a 1).symm.trans (hD _ (Array.mem_of_getElem? (i := 0) rfl) rfl).1
      have e1 : a.tmps[5]?.getD undef = encRole (7, true) := (ev a 5).symm.trans (hD _ (Array.mem_of_getElem? (i := 1) rfl) rfl)
      clear hD
      simp only [execOp, Act.eval, Array.getD_eq_getD_getElem?, e0, e1]
      first | done | rfl
    · refine lit_pure (by decide) (encRole (8, true)) rfl ⟨_, rfl⟩ (fun _ => rfl) ?_
      intro a W _
      go_simp
      first | done | rfl
    · refine lit_put encRole_inj roleTabV_fun role_key Tryz.underlying199 4 (8, true) (.int .i64 (2)) rfl rfl rfl ⟨_, Array.mem_of_getElem? (i := 0) rfl, rfl, rfl⟩ ?_
      intro a W hD
      have e0 : a.tmps[1]?.getD undef = .map (some w.heap.size) := (ev a 1).symm.trans (hD _ (Array.mem_of_getElem? (i := 0) rfl) rfl).1
      have e1 : a.tmps[6]?.getD undef = encRole (8, true) := (ev a 6).symm.trans (hD _ (Array.mem_of_getElem? (i := 1) rfl) rfl)
      clear hD
      simp only [execOp, Act.eval, Array.getD_eq_getD_getElem?, e0, e1]
      first | done | rfl
    · refine lit_pure (by decide) (encRole (9, true)) rfl ⟨_, rfl⟩ (fun _ => rfl) ?_
      intro a W _
      go_simp
      first | done | rfl
    · refine lit_put encRole_inj roleTabV_fun role_key Tryz.underlying199 5 (9, true) (.int .i64 (3)) rfl rfl rfl ⟨_, Array.mem_of_getElem? (i := 0) rfl, rfl, rfl⟩ ?_
      intro a W hD
      have e0 : a.tmps[1]?.getD undef = .map (some w.heap.size) := (ev a 1).symm.trans (hD _ (Array.mem_of_getElem? (i := 0) rfl) rfl).1
      have e1 : a.tmps[7]?.getD undef = encRole (9, true) := (ev a 7).symm.trans (hD _ (Array.mem_of_getElem? (i := 1) rfl) rfl)
      clear hD
      simp only [execOp, Act.eval, Array.getD_eq_getD_getElem?, e0, e1]
      first | done | rfl
    · refine lit_pure (by decide) (.map (some w.heap.size)) rfl ⟨_, rfl⟩ (fun _ => rfl) ?_
      intro a W hD
      have e0 : a.tmps[1]?.getD undef = .map (some w.heap.size) := (ev a 1).symm.trans (hD _ (Array.mem_of_getElem? (i := 0) rfl) rfl).1
      clear hD
      go_simp
    · refine lit_pure (by decide) (.map (some w.heap.size)) rfl ⟨_, rfl⟩ (fun _ => rfl) ?_
      intro a W hD
      have e0 : a.tmps[8]?.getD undef = .map (some w.heap.size) := (ev a 8).symm.trans (hD _ (Array.mem_of_getElem? (i := 0) rfl) rfl)
      clear hD
      go_simp
  intro vals W hu htab hv
  have v13 : vals 13 = _ := hv 13 (by decide) (by decide)
  have v14 : vals 14 = _ := hv 14 (by decide) (by decide)
  clear hv
  simp only [putAll, Act.put, Nat.zero_add, Nat.reduceAdd, v13, v14, List.setIfInBounds_toArray, List.set_cons_zero, List.set_cons_succ]
  clear v13 v14
  have HT := Lib.hid htab
  have HU := Lib.hid hu
  clear htab hu
  go_wp2_with fail
  go_ret
  exact ⟨rfl, HT.out, HU.out⟩
end Go.Proofs.YtglafpdealjlnaaGreat
namespace Go.Proofs.YtglafpdealjlnaaGreat
open Go.RowKit
set_option linter.unusedSimpArgs false
set_option linter.unusedVariables false
set_option maxRecDepth 100000

theorem IterM.mono {κ : Type} {enc : κ → Value} {w : World} {r g n : Nat} {tab : List (κ × Value)} {S S' : κ × Value → Prop} (h : IterM enc w r g tab S n) (hS : ∀ p ∈ tab, S' p → S p) : IterM enc w r g tab S' n := by
  obtain ⟨es, clock, seen, since, c0, h1, h2, h3, h4, h5, h6, h7, h8⟩ := h
  exact ⟨es, clock, seen, since, c0, h1, h2, h3, h4, h5, h6, h7, fun p hp hs => h8 p hp (hS p hp hs)⟩
theorem kindFor_hit {out : Bool} {does pk : Int} (h : ((pk, out), Value.int .i64 does) ∈ roleTabV) : kindFor out does = pk := by
  have hk : ∀ p ∈ roleTab, kindFor p.1.2 p.2 = p.1.1 := by decide +kernel
  obtain ⟨p, hp, he⟩ := List.mem_map.1 h
  simp only [Prod.mk.injEq, Value.int.injEq, true_and] at he
  have := hk p hp
  rw [he.1, he.2] at this
  exact this
theorem kindFor_miss {out : Bool} {does : Int} (h : ∀ pk, ((pk, out), Value.int .i64 does) ∉ roleTabV) : kindFor out does = 0 := by
  unfold kindFor
  cases hf : roleTab.find? (fun p => p.2 == does && p.1.2 == out) with
  | none => rfl
  | some p =>
    exfalso
    have h1 := List.find?_some hf
    have h2 := List.mem_of_find?_eq_some hf
    simp only [Bool.and_eq_true, beq_iff_eq] at h1
    refine h p.1.1 (List.mem_map.2 ⟨p, h2, ?_⟩)
    rw [← h1.1, ← h1.2]

set_option maxHeartbeats 2000000 in
set_option maxRecDepth 100000 in
theorem kind_for (b : Nat) (k : K) (does : Int) (w : World) (h : CallAt w b k) :
    Calls Tryz.prog 176 #[.pointer (some ⟨b, 0, none⟩), .int .i64 does] w fun e w' => e = .returned (.int .i64 (kindFor k.out does)) ∧ Upd [] w w' := by
  have HC := Lib.hid h
  obtain ⟨vw, vg, ow, og, hb, -, -⟩ := h
  have HB := Lib.hid hb
  clear hb
  go_enter Tryz.func176, Tryz.ntmps176
  go_wp2_with fail
  refine (roles_any _).mono ?_
  rintro e w1 ⟨rfl, ht, hu1⟩
  obtain ⟨m, hm, hm1, hm2⟩ := ht
  obtain ⟨w2, n, hrg, hu2, hz2, hit⟩ := IterM.start hm hm1 hm2 (P := Tryz.prog) Tryz.underlying199
  have hlt : w.heap.size < w1.heap.size := by
    obtain ⟨es, clock, hh, _⟩ := hm
    rcases Nat.lt_or_ge w.heap.size w1.heap.size with h | h
    · exact h
    · rw [Array.getElem?_eq_none h] at hh; cases hh
  obtain ⟨g, hg⟩ : ∃ g, g = w.heap.size := ⟨_, rfl⟩
  obtain ⟨r, hr⟩ : ∃ r, r = w1.heap.size := ⟨_, rfl⟩
  have HR : Hid (w.heap.size ≤ g ∧ w.heap.size ≤ r) := by rw [hg, hr]; exact ⟨Nat.le_refl _, by omega⟩
  have hgr : g < r := by omega
  rw [← hg] at hrg
  rw [← hr] at hrg
  rw [← hg, ← hr] at hit
  have HI : Hid (IterM encRole w2 r g roleTabV (fun p => ∃ pk, p = ((pk, k.out), .int .i64 does)) n ∧ Upd [] w w2) := ⟨hit.mono (fun _ _ _ => trivial), hu1.trans hu2⟩
  rw [← hg]
  clear hm hm1 hm2 hu1 hu2 hz2 hit hlt hg hr
  go_wp2_with fail
  clear hrg
  go_loopg [] n (fun m wr => IterM encRole wr r g roleTabV (fun p => ∃ pk, p = ((pk, k.out), .int .i64 does)) m ∧ Upd [] w wr)
  case atStart => exact HI.out
  case round =>
    obtain ⟨hit, hu⟩ := hrel
    have hblk := HB.out.upd hu (by simp)
    have g3 := hblk.cell 3
    simp [K.cells] at g3
    have hbl := hblk.lt
    rcases IterM.next (P := Tryz.prog) hit encRole_inj 199 with ⟨hno, hnx⟩ | ⟨⟨⟨pk, po⟩, pv⟩, hp, w', n', hnx, hlt, hu', hz', hit', hen⟩
    · have hnx' : ∀ ty : TypeId, (Instr.next (.pointer (some ⟨r, 0, none⟩)) false ty).run Tryz.prog wr = .ok (.tuple #[.bool false]) wr := fun ty => hnx
      have HK : Hid (kindFor k.out does = 0) := kindFor_miss fun pk hp => hno _ hp ⟨pk, rfl⟩
      have HU := Lib.hid hu
      clear hno hit hu HI hblk hnx
      go_wp2_with fail
      go_ret
      rw [HK.out]
      exact ⟨rfl, HU.out⟩
    · have hnx' : ∀ ty : TypeId, (Instr.next (.pointer (some ⟨r, 0, none⟩)) false ty).run Tryz.prog wr = .ok (.tuple #[.bool true, encRole (pk, po), pv]) w' := fun ty => hnx
      obtain ⟨pd, rfl⟩ : ∃ pd : Int, pv = .int .i64 pd := by
        obtain ⟨p, _, he⟩ := List.mem_map.1 hp
        simp only [Prod.mk.injEq] at he
        exact ⟨p.2, he.2.symm⟩
      have hu2 : Upd [] w w' := hu.trans' hu' (fun x hx => .inr (by simp at hx; subst hx; exact HR.out.2))
      have hblk2 := HB.out.upd hu2 (by simp)
      have g3 := hblk2.cell 3
      simp [K.cells] at g3
      have hbl := hblk2.lt
      have HU := Lib.hid hu2
      have HP := Lib.hid hp
      have HIT := Lib.hid hit'
      simp only [encRole] at hnx' hen
      clear hu hu' hu2 hblk hblk2 hit hit' hp hnx HI
      by_cases t1 : pd = does
      · subst t1
        by_cases t2 : po = k.out
        · subst t2
          have HK : Hid (kindFor k.out pd = pk) := kindFor_hit HP.out
          obtain ⟨po, hpo⟩ : ∃ o, o = k.out := ⟨_, rfl⟩
          rw [← hpo] at hen hnx' g3
          clear hpo
          have tb : (po == po) = true := by simp
          go_wp2_with fail
          go_quiet (fail)
          go_wp2_with fail
          go_ret
          rw [HK.out]
          exact ⟨rfl, (HU.out.alloc _).drewN _⟩
        · obtain ⟨ko, hko⟩ : ∃ o, o = k.out := ⟨_, rfl⟩
          rw [← hko] at g3 t2
          have HKO := Lib.hid hko
          clear hko
          have tb : (po == ko) = false := by simpa using t2
          have HT2 := Lib.hid t2
          clear t2
          go_wp2_with fail
          go_quiet (fail)
          go_wp2_with fail
          go_roundg n'
          case rel =>
            refine ⟨(HIT.out.mono fun q hq => ?_).upd (((Upd.refl [] w').alloc _).drewN _) (by simp) (by simp), (HU.out.alloc _).drewN _⟩
            rintro ⟨qk, rfl⟩
            refine ⟨⟨qk, rfl⟩, fun e => ?_⟩
            simp only [Prod.mk.injEq] at e
            exact HT2.out (by rw [HKO.out]; exact e.1.2.symm)
          case measure => omega
      · have tb : (pd == does) = false := by simpa using t1
        have HT1 := Lib.hid t1
        clear t1
        go_wp2_with fail
        go_quiet (fail)
        go_wp2_with fail
        go_roundg n'
        case rel =>
          refine ⟨(HIT.out.mono fun q hq => ?_).upd (((Upd.refl [] w').alloc _).drewN _) (by simp) (by simp), (HU.out.alloc _).drewN _⟩
          rintro ⟨qk, rfl⟩
          refine ⟨⟨qk, rfl⟩, fun e => ?_⟩
          simp only [Prod.mk.injEq, Value.int.injEq, true_and] at e
          exact HT1.out e.2.symm
        case measure => omega
end Go.Proofs.YtglafpdealjlnaaGreat
namespace Go.Proofs.YtglafpdealjlnaaGreat
open Go.RowKit
set_option linter.unusedSimpArgs false
set_option linter.unusedVariables false
set_option maxRecDepth 100000

/-- What is said is put together: stage by stage. -/
def sayA (w0 : World) (g : Nat) (pr : Int) (m : List Av) (vs : List Value) (w : World) : Prop := match vs with
  | [] => Upd [] w0 w
  | [u] => Upd [] w0 w ∧ ∃ own, Own w 85 5 u m.length (avCells m) own ∧ ∀ x ∈ own, w0.heap.size ≤ x
  | [_, a] => Upd [] w0 w ∧ ∃ u own, a = .agg #[.int .i64 pr, u] ∧ (∃ ao cap, u = .slice ao m.length cap) ∧ Own w 85 5 u m.length (avCells m) own ∧ ∀ x ∈ own, w0.heap.size ≤ x
  | [_, _, _] => ∃ u own, Own w 85 5 u m.length (avCells m) own ∧ Blk w g 191 #[.int .i64 pr, u] ∧ Upd [g] w0 w ∧ ∀ x ∈ own, w0.heap.size ≤ x
  | _ => False
theorem sayA_upd {w0 w : World} {g : Nat} {pr : Int} {m : List Av} {vs : List Value} (h : sayA w0 g pr m vs w) (hv : vs.length ≤ 1) : Upd [] w0 w := by
  match vs, hv with
  | [], _ => exact h
  | [u], _ => exact h.1

set_option maxHeartbeats 2000000 in
theorem say_any (b : Nat) (k : K) (kind : Int) (l : List Av) (v : Value) (w : World) (h : CallAt w b k) (hl : AvsAt w v l) (hs : l.length < 1000000) :
    Calls Tryz.prog 175 #[.pointer (some ⟨b, 0, none⟩), .int .i64 kind, v] w fun e w' =>
      ∃ u own, e = .returned (.agg #[.int .i64 k.peer, u]) ∧ Own w' 85 5 u (numAv 0 kind 2 :: l).length (avCells (numAv 0 kind 2 :: l)) own ∧ Upd [] w w' ∧ ∀ x ∈ own, w.heap.size ≤ x := by
  obtain ⟨vw, vg, ow, og, hb, -, -⟩ := h
  have HB := Lib.hid hb
  have HS := Lib.hid hs
  obtain ⟨ao, cap, rfl, -⟩ := id hl
  obtain ⟨n, hn⟩ : ∃ n, n = l.length := ⟨_, rfl⟩
  rw [← hn] at hl
  rw [← hn]
  have HL := Lib.hid hl
  clear hb hs hl hn
  go_enter Tryz.func175, Tryz.ntmps175
  go_wp2_with fail
  refine wp_region_chain [some (.pointer (some ⟨b, 0, none⟩)), some (.pointer (some ⟨b, 0, none⟩)), some (.pointer (some ⟨b, 2, none⟩)), some (.int .i64 k.peer), some (.int .i64 kind), some (.slice ao n cap), none, none, none] [6,7,8] (sayA (w.alloc (.cells #[.int .i64 0, .slice none 0 0] 191)) w.heap.size k.peer (numAv 0 kind 2 :: l)) [(0, 1), (0, 1), (0, 1), (0, 1), (0, 0), (0, 0), (0, 0), (1, 1), (2, 2)] (by kernel_rfl) (by kernel_rfl) (by kernel_rfl) (by kernel_rfl) (by kernel_rfl) (by kernel_rfl) (((Upd.refl [] _).drew)) ?_ ?_
  · refine StepsC.cons ?_ (StepsC.cons ?_ (StepsC.cons ?_ (StepsC.cons ?_ (StepsC.cons ?_ (StepsC.cons ?_ (StepsC.cons ?_ (StepsC.cons ?_ (StepsC.cons ?_ StepsC.nil))))))))
    · refine chain_is _ (.inl rfl) ⟨_, rfl⟩ (by kernel_rfl) rfl ?_
      intro a W kst l0 h0 A0 hF hD
      have e0 : a.tmps[0]?.getD undef = _ := (ev a 0).symm.trans (hF 0 (by kernel_rfl))
      clear hF hD
      go_simp
    · refine chain_is _ (.inl rfl) ⟨_, rfl⟩ (by kernel_rfl) rfl ?_
      intro a W kst l0 h0 A0 hF hD
      have e7 : a.tmps[7]?.getD undef = .pointer (some ⟨b, 0, none⟩) := (ev a 7).symm.trans (hD _ (Array.mem_of_getElem? (i := 0) rfl) rfl)
      clear hF hD
      go_simp
    · refine chain_is _ (.inl rfl) ⟨_, rfl⟩ (by kernel_rfl) rfl ?_
      intro a W kst l0 h0 A0 hF hD
      have e8 : a.tmps[8]?.getD undef = .pointer (some ⟨b, 0, none⟩) := (ev a 8).symm.trans (hD _ (Array.mem_of_getElem? (i := 0) rfl) rfl)
      clear hF hD
      go_simp
    · refine chain_is _ (.inl rfl) ⟨_, rfl⟩ (by kernel_rfl) rfl ?_
      intro a W kst l0 h0 A0 hF hD
      have e9 : a.tmps[9]?.getD undef = .pointer (some ⟨b, 2, none⟩) := (ev a 9).symm.trans (hD _ (Array.mem_of_getElem? (i := 0) rfl) rfl)
      clear hF hD
      have hu := sayA_upd A0 (by simp only [List.length_map, List.length_take]; omega)
      have g2 := ((HB.out.alloc (.cells #[.int .i64 0, .slice none 0 0] 191)).upd hu (by simp)).cell 2
      simp [K.cells] at g2
      go_simp
    · refine chain_is _ (.inl rfl) ⟨_, rfl⟩ (by kernel_rfl) rfl ?_
      intro a W kst l0 h0 A0 hF hD
      have k0 : kst = 0 := Nat.le_antisymm h0 l0
      subst k0
      clear l0 h0
      have e1 : a.tmps[1]?.getD undef = _ := (ev a 1).symm.trans (hF 1 (by kernel_rfl))
      clear hF hD
      go_simp
    · refine chain_is _ (.inl rfl) ⟨_, rfl⟩ (by kernel_rfl) rfl ?_
      intro a W kst l0 h0 A0 hF hD
      have k0 : kst = 0 := Nat.le_antisymm h0 l0
      subst k0
      clear l0 h0
      have e2 : a.tmps[2]?.getD undef = _ := (ev a 2).symm.trans (hF 2 (by kernel_rfl))
      clear hF hD
      go_simp
    · refine chain_call (.inl rfl) ⟨_, rfl⟩ (by kernel_rfl) ?_
      intro a W kst l0 h0 A0 hF hD
      have k0 : kst = 0 := Nat.le_antisymm h0 l0
      subst k0
      clear l0 h0
      have e11 : a.tmps[11]?.getD undef = .int .i64 kind := (ev a 11).symm.trans (hD _ (Array.mem_of_getElem? (i := 0) rfl) rfl)
      have e12 : a.tmps[12]?.getD undef = .slice ao n cap := (ev a 12).symm.trans (hD _ (Array.mem_of_getElem? (i := 1) rfl) rfl)
      clear hF hD
      have hu : Upd [] _ W := A0
      refine ⟨_, _, by (go_simp; first | done | rfl | exact ⟨rfl, rfl⟩), ?_⟩
      refine (make_any kind l _ _ (HL.out.upd (((Upd.refl [] w).alloc _).trans hu)) HS.out).mono ?_
      rintro e w3 ⟨u1, own1, rfl, ho1, hf1, hu2⟩
      exact ⟨_, rfl, trivial, hu.trans hu2, own1, by rw [List.length_cons, Nat.add_comm]; exact ho1, fun x hx => Nat.le_trans hu.size (hf1 x hx)⟩
    · refine chain_run (.inl rfl) ⟨_, rfl⟩ (by kernel_rfl) ?_
      intro a W kst l0 h0 A0 hF hD
      have k0 : kst = 1 := Nat.le_antisymm h0 l0
      subst k0
      clear l0 h0
      have e10 : a.tmps[10]?.getD undef = .int .i64 k.peer := (ev a 10).symm.trans (hD _ (Array.mem_of_getElem? (i := 0) rfl) rfl)
      clear hF hD
      obtain ⟨hu, own1, ho, hf⟩ := A0
      obtain ⟨ao1, cap1, hv, -, -⟩ := ho.shape
      obtain ⟨n1, hn1⟩ : ∃ x, x = (numAv 0 kind 2 :: l).length := ⟨_, rfl⟩
      rw [← hn1] at hv
      have e13 : a.tmps[13]?.getD undef = _ := (ev a 13).symm.trans hv
      rw [hv] at ho
      have HN1 := Lib.hid hn1
      clear hn1
      refine ⟨.agg #[.int .i64 k.peer, .slice ao1 n1 cap1], W, by go_simp, trivial, hu, _, own1, rfl, ⟨ao1, cap1, by rw [HN1.out]⟩, ho, hf⟩
    · refine chain_set (.inl rfl) rfl (by kernel_rfl) trivial ?_
      intro a W kst l0 h0 A0 hF hD
      have k0 : kst = 2 := Nat.le_antisymm h0 l0
      subst k0
      clear l0 h0
      have e6 : a.tmps[6]?.getD undef = _ := (ev a 6).symm.trans (hF 6 (by kernel_rfl))
      clear hF hD
      obtain ⟨hu, u, own1, hg, ⟨ao1, cap1, hv⟩, ho, hf⟩ := A0
      obtain ⟨n1, hn1⟩ : ∃ x, x = (numAv 0 kind 2 :: l).length := ⟨_, rfl⟩
      rw [← hn1] at hv
      have HN1 := Lib.hid hn1
      clear hn1
      subst hv
      have e14 : a.tmps[14]?.getD undef = _ := (ev a 14).symm.trans hg
      have b0 := (Blk.new w 191 #[.int .i64 0, .slice none 0 0]).upd hu (by simp)
      have c0 := b0.cell 0
      have c1 := b0.cell 1
      have f0 := b0.frozen 0
      have f1 := b0.frozen 1
      simp only [List.size_toArray, List.length_cons, List.length_nil, List.getElem?_toArray, List.getElem?_cons_zero, List.getElem?_cons_succ] at c0 c1
      have hb := (b0.set_ 0 (.int .i64 k.peer)).set_ 1 (.slice ao1 n1 cap1)
      have hne : w.heap.size ∉ own1 := ho.ne_blk b0 (by decide)
      refine ⟨_, by (go_simp; first | done | rfl | exact ⟨rfl, rfl⟩), .slice ao1 n1 cap1, own1, (ho.setCell _ hne).setCell _ hne, hb, ((Upd.mono (F := []) hu (by simp)).setCell _ (.inl (by simp))).setCell _ (.inl (by simp)), hf⟩
  intro vals W hv hA
  have v0 : vals 0 = .pointer (some ⟨b, 0, none⟩) := hv 0 (by decide)
  have v1 : vals 1 = .pointer (some ⟨b, 0, none⟩) := hv 1 (by decide)
  have v2 : vals 2 = .pointer (some ⟨b, 2, none⟩) := hv 2 (by decide)
  have v3 : vals 3 = .int .i64 k.peer := hv 3 (by decide)
  have v4 : vals 4 = .int .i64 kind := hv 4 (by decide)
  have v5 : vals 5 = .slice ao n cap := hv 5 (by decide)
  clear hv
  obtain ⟨u, own1, ho, hb1, hu, hf⟩ := hA
  simp only [putAll, Act.put, Nat.zero_add, Nat.reduceAdd, v0, v1, v2, v3, v4, v5, List.setIfInBounds_toArray, List.set_cons_zero, List.set_cons_succ]
  clear v0 v1 v2 v3 v4 v5
  have HO := Lib.hid ho
  have HF : Hid (∀ x ∈ own1, w.heap.size ≤ x) := fun x hx => Nat.le_trans ((Upd.refl [] w).alloc (.cells #[.int .i64 0, .slice none 0 0] 191)).size (hf x hx)
  have HU : Hid (Upd [] w W) := ((Upd.refl [] w).alloc _).trans' hu (fun x hx => .inr (by simp at hx; omega))
  have q0 := hb1.cell 0
  have q1 := hb1.cell 1
  simp at q0 q1
  clear ho hu hb1 hf
  go_wp2_with fail
  exact bodyPost_ret (v := .agg #[.int .i64 k.peer, u]) (by simp [results, Tryz.results175, go_sem, q0, q1]) rfl ⟨u, own1, rfl, HO.out, HU.out, HF.out⟩
end Go.Proofs.YtglafpdealjlnaaGreat
