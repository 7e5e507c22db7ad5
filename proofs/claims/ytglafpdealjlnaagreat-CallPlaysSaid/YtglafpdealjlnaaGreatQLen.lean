/- The walk of avp.Length. -/
import Derived.Test.YtglafpdealjlnaaGreatProg
import Derived.Test.YtglafpdealjlnaaGreatQRelyN
namespace Go.Proofs.YtglafpdealjlnaaGreat
open Go.RowKit
set_option maxRecDepth 100000
set_option linter.unusedSimpArgs false
set_option linter.unusedVariables false

def encAt (k : Int × Int) : Value := .agg #[.int .i64 k.1, .int .i64 k.2]
theorem encAt_inj (a b : Int × Int) (h : encAt a = encAt b) : a = b := by
  obtain ⟨a1, a2⟩ := a
  obtain ⟨b1, b2⟩ := b
  simp only [encAt, Value.agg.injEq, Array.mk.injEq, List.cons.injEq, Value.int.injEq, true_and, and_true] at h
  rw [h.1, h.2]
theorem at_key : KeyEnc (Int × Int) Tryz.prog 354 encAt := by
  refine KeyEnc.of_struct Tryz.underlying354 (fun _ _ => rfl) ?_ ?_ ?_
  · rintro ⟨a1, a2⟩ ⟨b1, b2⟩ w
    show (Op.equalIn (9999 + 1) 354 (.agg #[.int .i64 a1, .int .i64 a2]) (.agg #[.int .i64 b1, .int .i64 b2])).run Tryz.prog w = _
    rw [run_equalIn_struct w 9999 354 _ _ (by kernel_rfl) (by kernel_rfl)]
    go_simp
    by_cases h1 : a1 = b1 <;> by_cases h2 : a2 = b2 <;> simp [h1, h2]
  · rintro em ⟨a1, a2⟩ w
    show (Instr.checkKey em (9999 + 1) 354 (.agg #[.int .i64 a1, .int .i64 a2])).run Tryz.prog w = _
    rw [Instr.checkKey]
    simp only [Sem.run_bind, run_underlying Tryz.underlying354, Result.andThen_ok]
    have hk : ∀ (x : Int) (u : World), (Instr.checkKey em (9998 + 1) 3 (.int .i64 x)).run Tryz.prog u = .ok () u := fun x u => MapKept.run_checkKey Tryz.underlying3 (by simp [MapKept.IsKey]) em 9998
    have hk' : ∀ (x : Int) (u : World), (Instr.checkKey em 9999 3 (.int .i64 x)).run Tryz.prog u = .ok () u := hk
    clear hk
    simp [hk', part, run_underlying Tryz.underlying3, Result.andThen]
  · rintro ⟨a1, a2⟩
    show Instr.sameBits 10000 (.agg #[.int .i64 a1, .int .i64 a2]) (.agg #[.int .i64 a1, .int .i64 a2]) = true
    simp [Instr.sameBits]

def lenT : List (Int × Int) := [(0, 2), (2, 2), (9, 2), (10, 2), (14, 2), (29, 2), (32, 2), (3, 4), (15, 4), (19, 4), (24, 4), (5, 8), (13, 16), (39, 0), (1, -1), (7, -1), (11, -1), (26, -1), (27, -1), (28, -1), (30, -1), (31, -1), (33, -1), (34, -1), (35, -1), (36, -1)]
def lenTab : List ((Int × Int) × Value) := lenT.map fun p => ((0, p.1), .int .i64 p.2)
def avpLen (kind : Int) : Int := match lenT.find? (fun p => kind == p.1) with
  | some p => p.2
  | none => -2
theorem lenTab_fun : ∀ p ∈ lenTab, ∀ q ∈ lenTab, p.1 = q.1 → p.2 = q.2 := by
  have h : ∀ p ∈ lenT, ∀ q ∈ lenT, p.1 = q.1 → p.2 = q.2 := by decide +kernel
  intro p hp q hq e
  obtain ⟨p', hp', rfl⟩ := List.mem_map.1 hp
  obtain ⟨q', hq', rfl⟩ := List.mem_map.1 hq
  simp only [Prod.mk.injEq, true_and] at e
  simp only [h p' hp' q' hq' e]
theorem lookV_lenTab (kind : Int) (l : List (Int × Int)) : lookV ((0, kind) : Int × Int) (l.map fun p => ((0, p.1), Value.int .i64 p.2)) = (l.find? (fun p => kind == p.1)).map (fun p => Value.int .i64 p.2) := by
  induction l with
  | nil => rfl
  | cons p l ih =>
    rw [List.map_cons, lookV, List.find?_cons]
    by_cases h : kind = p.1
    · simp [h]
    · have : (kind == p.1) = false := by simpa using h
      rw [if_neg (by simpa using h), this]
      exact ih

set_option maxHeartbeats 4000000 in
set_option maxRecDepth 100000 in
theorem length_any (kind : Int) (w : World) :
    Calls Tryz.prog 238 #[.int .i64 kind] w fun e w' => e = .returned (.int .i64 (avpLen kind)) ∧ Upd [] w w' := by
  have hz : ∀ W : World, (zeroValue 3).run Tryz.prog W = .ok (.int .i64 0) W := fun W => by kernel_rfl
  have HT : ∀ W : World, TabM encAt W w.heap.size lenTab → (Instr.lookup 355 (.map (some w.heap.size)) (.agg #[.int .i64 0, .int .i64 kind]) true).run Tryz.prog W =
      .ok (.tuple #[((lenT.find? (fun p => kind == p.1)).map (fun p => Value.int .i64 p.2)).getD (.int .i64 0), .bool ((lenT.find? (fun p => kind == p.1)).map (fun p => Value.int .i64 p.2)).isSome]) W := by
    intro W h
    have := (h.look lenTab_fun at_key Tryz.underlying355 (hz W) (0, kind)).1
    rw [show lookV ((0, kind) : Int × Int) lenTab = _ from lookV_lenTab kind lenT] at this
    exact this
  have HQ : Hid (avpLen kind = match lenT.find? (fun p => kind == p.1) with | some p => p.2 | none => -2) := rfl
  clear hz
  cases hf : lenT.find? (fun p => kind == p.1)
  all_goals
    rw [hf] at HT
    have HR := Lib.hid hf
    simp only [Option.map_none, Option.map_some, Option.getD_none, Option.getD_some, Option.isSome_none, Option.isSome_some] at HT
    clear hf
    have HT := Lib.hid HT
    go_enter Tryz.func238, Tryz.ntmps238
    go_wp2_with fail
    refine wp_region_lit (tab := lenTab) (enc := encAt) encAt_inj (by kernel_rfl) (by kernel_rfl) (by kernel_rfl) (by decide) ?_ ?_
    · refine ⟨?_, ?_, ?_, ?_, ?_, ?_, ?_, ?_, ?_, ?_, ?_, ?_, ?_, ?_, ?_, ?_, ?_, ?_, ?_, ?_, ?_, ?_, ?_, ?_, ?_, ?_, ?_, ?_, ?_, ?_, ?_, ?_, ?_, ?_, ?_, ?_, ?_, ?_, ?_, ?_, ?_, ?_, ?_, ?_, ?_, ?_, ?_, ?_, ?_, ?_, ?_, ?_, ?_, ?_, ?_, trivial⟩
      · refine lit_make rfl ⟨_, rfl⟩ ?_
        intro a W
        rfl
      · refine lit_pure (by decide) (encAt (0, 0)) rfl ⟨_, rfl⟩ (fun _ => rfl) ?_
        intro a W _
        go_simp
        first | done | rfl
      · refine lit_put encAt_inj lenTab_fun at_key Tryz.underlying355 0 (0, 0) (.int .i64 (2)) rfl rfl rfl ⟨_, Array.mem_of_getElem? (i := 0) rfl, rfl, rfl⟩ ?_
        intro a W hD
        have e0 : a.tmps[6]?.getD undef = .map (some w.heap.size) := (ev a 6).symm.trans (hD _ (Array.mem_of_getElem? (i := 0) rfl) rfl).1
        have e1 : a.tmps[7]?.getD undef = encAt (0, 0) := (ev a 7).symm.trans (hD _ (Array.mem_of_getElem? (i := 1) rfl) rfl)
        clear hD
        simp only [execOp, Act.eval, Array.getD_eq_getD_getElem?, e0, e1]
        first | done | rfl
      · refine lit_pure (by decide) (encAt (0, 2)) rfl ⟨_, rfl⟩ (fun _ => rfl) ?_
        intro a W _
        go_simp
        first | done | rfl
      · refine lit_put encAt_inj lenTab_fun at_key Tryz.underlying355 1 (0, 2) (.int .i64 (2)) rfl rfl rfl ⟨_, Array.mem_of_getElem? (i := 0) rfl, rfl, rfl⟩ ?_
        intro a W hD
        have e0 : a.tmps[6]?.getD undef = .map (some w.heap.size) := (ev a 6).symm.trans (hD _ (Array.mem_of_getElem? (i := 0) rfl) rfl).1
        have e1 : a.tmps[8]?.getD undef = encAt (0, 2) := (ev a 8).symm.trans (hD _ (Array.mem_of_getElem? (i := 1) rfl) rfl)
        clear hD
        simp only [execOp, Act.eval, Array.getD_eq_getD_getElem?, e0, e1]
        first | done | rfl
      · refine lit_pure (by decide) (encAt (0, 9)) rfl ⟨_, rfl⟩ (fun _ => rfl) ?_
        intro a W _
        go_simp
        first | done | rfl
      · refine lit_put encAt_inj lenTab_fun at_key Tryz.underlying355 2 (0, 9) (.int .i64 (2)) rfl rfl rfl ⟨_, Array.mem_of_getElem? (i := 0) rfl, rfl, rfl⟩ ?_
        intro a W hD
        have e0 : a.tmps[6]?.getD undef = .map (some w.heap.size) := (ev a 6).symm.trans (hD _ (Array.mem_of_getElem? (i := 0) rfl) rfl).1
        have e1 : a.tmps[9]?.getD undef = encAt (0, 9) := (ev a 9).symm.trans (hD _ (Array.mem_of_getElem? (i := 1) rfl) rfl)
        clear hD
        simp only [execOp, Act.eval, Array.getD_eq_getD_getElem?, e0, e1]
        first | done | rfl
      · refine lit_pure (by decide) (encAt (0, 10)) rfl ⟨_, rfl⟩ (fun _ => rfl) ?_
        intro a W _
        go_simp
        first | done | rfl
      · refine lit_put encAt_inj lenTab_fun at_key Tryz.underlying355 3 (0, 10) (.int .i64 (2)) rfl rfl rfl ⟨_, Array.mem_of_getElem? (i := 0) rfl, rfl, rfl⟩ ?_
        intro a W hD
        have e0 : a.tmps[6]?.getD undef = .map (some w.heap.size) := (ev a 6).symm.trans (hD _ (Array.mem_of_getElem? (i := 0) rfl) rfl).1
        have e1 : a.tmps[10]?.getD undef = encAt (0, 10) := (ev a 10).symm.trans (hD _ (Array.mem_of_getElem? (i := 1) rfl) rfl)
        clear hD
        simp only [execOp, Act.eval, Array.getD_eq_getD_getElem?, e0, e1]
        first | done | rfl
      · refine lit_pure (by decide) (encAt (0, 14)) rfl ⟨_, rfl⟩ (fun _ => rfl) ?_
        intro a W _
        go_simp
        first | done | rfl
      · refine lit_put encAt_inj lenTab_fun at_key Tryz.underlying355 4 (0, 14) (.int .i64 (2)) rfl rfl rfl ⟨_, Array.mem_of_getElem? (i := 0) rfl, rfl, rfl⟩ ?_
        intro a W hD
        have e0 : a.tmps[6]?.getD undef = .map (some w.heap.size) := (ev a 6).symm.trans (hD _ (Array.mem_of_getElem? (i := 0) rfl) rfl).1
        have e1 : a.tmps[11]?.getD undef = encAt (0, 14) := (ev a 11).symm.trans (hD _ (Array.mem_of_getElem? (i := 1) rfl) rfl)
        clear hD
        simp only [execOp, Act.eval, Array.getD_eq_getD_getElem?, e0, e1]
        first | done | rfl
      · refine lit_pure (by decide) (encAt (0, 29)) rfl ⟨_, rfl⟩ (fun _ => rfl) ?_
        intro a W _
        go_simp
        first | done | rfl
      · refine lit_put encAt_inj lenTab_fun at_key Tryz.underlying355 5 (0, 29) (.int .i64 (2)) rfl rfl rfl ⟨_, Array.mem_of_getElem? (i := 0) rfl, rfl, rfl⟩ ?_
        intro a W hD
        have e0 : a.tmps[6]?.getD undef = .map (some w.heap.size) := (ev a 6).symm.trans (hD _ (Array.mem_of_getElem? (i := 0) rfl) rfl).1
        have e1 : a.tmps[12]?.getD undef = encAt (0, 29) := (ev a 12).symm.trans (hD _ (Array.mem_of_getElem? (i := 1) rfl) rfl)
        clear hD
        simp only [execOp, Act.eval, Array.getD_eq_getD_getElem?, e0, e1]
        first | done | rfl
      · refine lit_pure (by decide) (encAt (0, 32)) rfl ⟨_, rfl⟩ (fun _ => rfl) ?_
        intro a W _
        go_simp
        first | done | rfl
      · refine lit_put encAt_inj lenTab_fun at_key Tryz.underlying355 6 (0, 32) (.int .i64 (2)) rfl rfl rfl ⟨_, Array.mem_of_getElem? (i := 0) rfl, rfl, rfl⟩ ?_
        intro a W hD
        have e0 : a.tmps[6]?.getD undef = .map (some w.heap.size) := (ev a 6).symm.trans (hD _ (Array.mem_of_getElem? (i := 0) rfl) rfl).1
        have e1 : a.tmps[13]?.getD undef = encAt (0, 32) := (ev a 13).symm.trans (hD _ (Array.mem_of_getElem? (i := 1) rfl) rfl)
        clear hD
        simp only [execOp, Act.eval, Array.getD_eq_getD_getElem?, e0, e1]
        first | done | rfl
      · refine lit_pure (by decide) (encAt (0, 3)) rfl ⟨_, rfl⟩ (fun _ => rfl) ?_
        intro a W _
        go_simp
        first | done | rfl
      · refine lit_put encAt_inj lenTab_fun at_key Tryz.underlying355 7 (0, 3) (.int .i64 (4)) rfl rfl rfl ⟨_, Array.mem_of_getElem? (i := 0) rfl, rfl, rfl⟩ ?_
        intro a W hD
        have e0 : a.tmps[6]?.getD undef = .map (some w.heap.size) := (ev a 6).symm.trans (hD _ (Array.mem_of_getElem? (i := 0) rfl) rfl).1
        have e1 : a.tmps[14]?.getD undef = encAt (0, 3) := (ev a 14).symm.trans (hD _ (Array.mem_of_getElem? (i := 1) rfl) rfl)
        clear hD
        simp only [execOp, Act.eval, Array.getD_eq_getD_getElem?, e0, e1]
        first | done | rfl
      · refine lit_pure (by decide) (encAt (0, 15)) rfl ⟨_, rfl⟩ (fun _ => rfl) ?_
        intro a W _
        go_simp
        first | done | rfl
      · refine lit_put encAt_inj lenTab_fun at_key Tryz.underlying355 8 (0, 15) (.int .i64 (4)) rfl rfl rfl ⟨_, Array.mem_of_getElem? (i := 0) rfl, rfl, rfl⟩ ?_
        intro a W hD
        have e0 : a.tmps[6]?.getD undef = .map (some w.heap.size) := (ev a 6).symm.trans (hD _ (Array.mem_of_getElem? (i := 0) rfl) rfl).1
        have e1 : a.tmps[15]?.getD undef = encAt (0, 15) := (ev a 15).symm.trans (hD _ (Array.mem_of_getElem? (i := 1) rfl) rfl)
        clear hD
        simp only [execOp, Act.eval, Array.getD_eq_getD_getElem?, e0, e1]
        first | done | rfl
      · refine lit_pure (by decide) (encAt (0, 19)) rfl ⟨_, rfl⟩ (fun _ => rfl) ?_
        intro a W _
        go_simp
        first | done | rfl
      · refine lit_put encAt_inj lenTab_fun at_key Tryz.underlying355 9 (0, 19) (.int .i64 (4)) rfl rfl rfl ⟨_, Array.mem_of_getElem? (i := 0) rfl, rfl, rfl⟩ ?_
        intro a W hD
        have e0 : a.tmps[6]?.getD undef = .map (some w.heap.size) := (ev a 6).symm.trans (hD _ (Array.mem_of_getElem? (i := 0) rfl) rfl).1
        have e1 : a.tmps[16]?.getD undef = encAt (0, 19) := (ev a 16).symm.trans (hD _ (Array.mem_of_getElem? (i := 1) rfl) rfl)
        clear hD
        simp only [execOp, Act.eval, Array.getD_eq_getD_getElem?, e0, e1]
        first | done | rfl
      · refine lit_pure (by decide) (encAt (0, 24)) rfl ⟨_, rfl⟩ (fun _ => rfl) ?_
        intro a W _
        go_simp
        first | done | rfl
      · refine lit_put encAt_inj lenTab_fun at_key Tryz.underlying355 10 (0, 24) (.int .i64 (4)) rfl rfl rfl ⟨_, Array.mem_of_getElem? (i := 0) rfl, rfl, rfl⟩ ?_
        intro a W hD
        have e0 : a.tmps[6]?.getD undef = .map (some w.heap.size) := (ev a 6).symm.trans (hD _ (Array.mem_of_getElem? (i := 0) rfl) rfl).1
        have e1 : a.tmps[17]?.getD undef = encAt (0, 24) := (ev a 17).symm.trans (hD _ (Array.mem_of_getElem? (i := 1) rfl) rfl)
        clear hD
        simp only [execOp, Act.eval, Array.getD_eq_getD_getElem?, e0, e1]
        first | done | rfl
      · refine lit_pure (by decide) (encAt (0, 5)) rfl ⟨_, rfl⟩ (fun _ => rfl) ?_
        intro a W _
        go_simp
        first | done | rfl
      · refine lit_put encAt_inj lenTab_fun at_key Tryz.underlying355 11 (0, 5) (.int .i64 (8)) rfl rfl rfl ⟨_, Array.mem_of_getElem? (i := 0) rfl, rfl, rfl⟩ ?_
        intro a W hD
        have e0 : a.tmps[6]?.getD undef = .map (some w.heap.size) := (ev a 6).symm.trans (hD _ (Array.mem_of_getElem? (i := 0) rfl) rfl).1
        have e1 : a.tmps[18]?.getD undef = encAt (0, 5) := (ev a 18).symm.trans (hD _ (Array.mem_of_getElem? (i := 1) rfl) rfl)
        clear hD
        simp only [execOp, Act.eval, Array.getD_eq_getD_getElem?, e0, e1]
        first | done | rfl
      · refine lit_pure (by decide) (encAt (0, 13)) rfl ⟨_, rfl⟩ (fun _ => rfl) ?_
        intro a W _
        go_simp
        first | done | rfl
      · refine lit_put encAt_inj lenTab_fun at_key Tryz.underlying355 12 (0, 13) (.int .i64 (16)) rfl rfl rfl ⟨_, Array.mem_of_getElem? (i := 0) rfl, rfl, rfl⟩ ?_
        intro a W hD
        have e0 : a.tmps[6]?.getD undef = .map (some w.heap.size) := (ev a 6).symm.trans (hD _ (Array.mem_of_getElem? (i := 0) rfl) rfl).1
        have e1 : a.tmps[19]?.getD undef = encAt (0, 13) := (ev a 19).symm.trans (hD _ (Array.mem_of_getElem? (i := 1) rfl) rfl)
        clear hD
        simp only [execOp, Act.eval, Array.getD_eq_getD_getElem?, e0, e1]
        first | done | rfl
      · refine lit_pure (by decide) (encAt (0, 39)) rfl ⟨_, rfl⟩ (fun _ => rfl) ?_
        intro a W _
        go_simp
        first | done | rfl
      · refine lit_put encAt_inj lenTab_fun at_key Tryz.underlying355 13 (0, 39) (.int .i64 (0)) rfl rfl rfl ⟨_, Array.mem_of_getElem? (i := 0) rfl, rfl, rfl⟩ ?_
        intro a W hD
        have e0 : a.tmps[6]?.getD undef = .map (some w.heap.size) := (ev a 6).symm.trans (hD _ (Array.mem_of_getElem? (i := 0) rfl) rfl).1
        have e1 : a.tmps[20]?.getD undef = encAt (0, 39) := (ev a 20).symm.trans (hD _ (Array.mem_of_getElem? (i := 1) rfl) rfl)
        clear hD
        simp only [execOp, Act.eval, Array.getD_eq_getD_getElem?, e0, e1]
        first | done | rfl
      · refine lit_pure (by decide) (encAt (0, 1)) rfl ⟨_, rfl⟩ (fun _ => rfl) ?_
        intro a W _
        go_simp
        first | done | rfl
      · refine lit_put encAt_inj lenTab_fun at_key Tryz.underlying355 14 (0, 1) (.int .i64 (-1)) rfl rfl rfl ⟨_, Array.mem_of_getElem? (i := 0) rfl, rfl, rfl⟩ ?_
        intro a W hD
        have e0 : a.tmps[6]?.getD undef = .map (some w.heap.size) := (ev a 6).symm.trans (hD _ (Array.mem_of_getElem? (i := 0) rfl) rfl).1
        have e1 : a.tmps[21]?.getD undef = encAt (0, 1) := (ev a 21).symm.trans (hD _ (Array.mem_of_getElem? (i := 1) rfl) rfl)
        clear hD
        simp only [execOp, Act.eval, Array.getD_eq_getD_getElem?, e0, e1]
        first | done | rfl
      · refine lit_pure (by decide) (encAt (0, 7)) rfl ⟨_, rfl⟩ (fun _ => rfl) ?_
        intro a W _
        go_simp
        first | done | rfl
      · refine lit_put encAt_inj lenTab_fun at_key Tryz.underlying355 15 (0, 7) (.int .i64 (-1)) rfl rfl rfl ⟨_, Array.mem_of_getElem? (i := 0) rfl, rfl, rfl⟩ ?_
        intro a W hD
        have e0 : a.tmps[6]?.getD undef = .map (some w.heap.size) := (ev a 6).symm.trans (hD _ (Array.mem_of_getElem? (i := 0) rfl) rfl).1
        have e1 : a.tmps[22]?.getD undef = encAt (0, 7) := (ev a 22).symm.trans (hD _ (Array.mem_of_getElem? (i := 1) rfl) rfl)
        clear hD
        simp only [execOp, Act.eval, Array.getD_eq_getD_getElem?, e0, e1]
        first | done | rfl
      · refine lit_pure (by decide) (encAt (0, 11)) rfl ⟨_, rfl⟩ (fun _ => rfl) ?_
        intro a W _
        go_simp
        first | done | rfl
      · refine lit_put encAt_inj lenTab_fun at_key Tryz.underlying355 16 (0, 11) (.int .i64 (-1)) rfl rfl rfl ⟨_, Array.mem_of_getElem? (i := 0) rfl, rfl, rfl⟩ ?_
        intro a W hD
        have e0 : a.tmps[6]?.getD undef = .map (some w.heap.size) := (ev a 6).symm.trans (hD _ (Array.mem_of_getElem? (i := 0) rfl) rfl).1
        have e1 : a.tmps[23]?.getD undef = encAt (0, 11) := (ev a 23).symm.trans (hD _ (Array.mem_of_getElem? (i := 1) rfl) rfl)
        clear hD
        simp only [execOp, Act.eval, Array.getD_eq_getD_getElem?, e0, e1]
        first | done | rfl
      · refine lit_pure (by decide) (encAt (0, 26)) rfl ⟨_, rfl⟩ (fun _ => rfl) ?_
        intro a W _
        go_simp
        first | done | rfl
      · refine lit_put encAt_inj lenTab_fun at_key Tryz.underlying355 17 (0, 26) (.int .i64 (-1)) rfl rfl rfl ⟨_, Array.mem_of_getElem? (i := 0) rfl, rfl, rfl⟩ ?_
        intro a W hD
        have e0 : a.tmps[6]?.getD undef = .map (some w.heap.size) := (ev a 6).symm.trans (hD _ (Array.mem_of_getElem? (i := 0) rfl) rfl).1
        have e1 : a.tmps[24]?.getD undef = encAt (0, 26) := (ev a 24).symm.trans (hD _ (Array.mem_of_getElem? (i := 1) rfl) rfl)
        clear hD
        simp only [execOp, Act.eval, Array.getD_eq_getD_getElem?, e0, e1]
        first | done | rfl
      · refine lit_pure (by decide) (encAt (0, 27)) rfl ⟨_, rfl⟩ (fun _ => rfl) ?_
        intro a W _
        go_simp
        first | done | rfl
      · refine lit_put encAt_inj lenTab_fun at_key Tryz.underlying355 18 (0, 27) (.int .i64 (-1)) rfl rfl rfl ⟨_, Array.mem_of_getElem? (i := 0) rfl, rfl, rfl⟩ ?_
        intro a W hD
        have e0 : a.tmps[6]?.getD undef = .map (some w.heap.size) := (ev a 6).symm.trans (hD _ (Array.mem_of_getElem? (i := 0) rfl) rfl).1
        have e1 : a.tmps[25]?.getD undef = encAt (0, 27) := (ev a 25).symm.trans (hD _ (Array.mem_of_getElem? (i := 1) rfl) rfl)
        clear hD
        simp only [execOp, Act.eval, Array.getD_eq_getD_getElem?, e0, e1]
        first | done | rfl
      · refine lit_pure (by decide) (encAt (0, 28)) rfl ⟨_, rfl⟩ (fun _ => rfl) ?_
        intro a W _
        go_simp
        first | done | rfl
      · refine lit_put encAt_inj lenTab_fun at_key Tryz.underlying355 19 (0, 28) (.int .i64 (-1)) rfl rfl rfl ⟨_, Array.mem_of_getElem? (i := 0) rfl, rfl, rfl⟩ ?_
        intro a W hD
        have e0 : a.tmps[6]?.getD undef = .map (some w.heap.size) := (ev a 6).symm.trans (hD _ (Array.mem_of_getElem? (i := 0) rfl) rfl).1
        have e1 : a.tmps[26]?.getD undef = encAt (0, 28) := (ev a 26).symm.trans (hD _ (Array.mem_of_getElem? (i := 1) rfl) rfl)
        clear hD
        simp only [execOp, Act.eval, Array.getD_eq_getD_getElem?, e0, e1]
        first | done | rfl
      · refine lit_pure (by decide) (encAt (0, 30)) rfl ⟨_, rfl⟩ (fun _ => rfl) ?_
        intro a W _
        go_simp
        first | done | rfl
      · refine lit_put encAt_inj lenTab_fun at_key Tryz.underlying355 20 (0, 30) (.int .i64 (-1)) rfl rfl rfl ⟨_, Array.mem_of_getElem? (i := 0) rfl, rfl, rfl⟩ ?_
        intro a W hD
        have e0 : a.tmps[6]?.getD undef = .map (some w.heap.size) := (ev a 6).symm.trans (hD _ (Array.mem_of_getElem? (i := 0) rfl) rfl).1
        have e1 : a.tmps[27]?.getD undef = encAt (0, 30) := (ev a 27).symm.trans (hD _ (Array.mem_of_getElem? (i := 1) rfl) rfl)
        clear hD
        simp only [execOp, Act.eval, Array.getD_eq_getD_getElem?, e0, e1]
        first | done | rfl
      · refine lit_pure (by decide) (encAt (0, 31)) rfl ⟨_, rfl⟩ (fun _ => rfl) ?_
        intro a W _
        go_simp
        first | done | rfl
      · refine lit_put encAt_inj lenTab_fun at_key Tryz.underlying355 21 (0, 31) (.int .i64 (-1)) rfl rfl rfl ⟨_, Array.mem_of_getElem? (i := 0) rfl, rfl, rfl⟩ ?_
        intro a W hD
        have e0 : a.tmps[6]?.getD undef = .map (some w.heap.size) := (ev a 6).symm.trans (hD _ (Array.mem_of_getElem? (i := 0) rfl) rfl).1
        have e1 : a.tmps[28]?.getD undef = encAt (0, 31) := (ev a 28).symm.trans (hD _ (Array.mem_of_getElem? (i := 1) rfl) rfl)
        clear hD
        simp only [execOp, Act.eval, Array.getD_eq_getD_getElem?, e0, e1]
        first | done | rfl
      · refine lit_pure (by decide) (encAt (0, 33)) rfl ⟨_, rfl⟩ (fun _ => rfl) ?_
        intro a W _
        go_simp
        first | done | rfl
      · refine lit_put encAt_inj lenTab_fun at_key Tryz.underlying355 22 (0, 33) (.int .i64 (-1)) rfl rfl rfl ⟨_, Array.mem_of_getElem? (i := 0) rfl, rfl, rfl⟩ ?_
        intro a W hD
        have e0 : a.tmps[6]?.getD undef = .map (some w.heap.size) := (ev a 6).symm.trans (hD _ (Array.mem_of_getElem? (i := 0) rfl) rfl).1
        have e1 : a.tmps[29]?.getD undef = encAt (0, 33) := (ev a 29).symm.trans (hD _ (Array.mem_of_getElem? (i := 1) rfl) rfl)
        clear hD
        simp only [execOp, Act.eval, Array.getD_eq_getD_getElem?, e0, e1]
        first | done | rfl
      · refine lit_pure (by decide) (encAt (0, 34)) rfl ⟨_, rfl⟩ (fun _ => rfl) ?_
        intro a W _
        go_simp
        first | done | rfl
      · refine lit_put encAt_inj lenTab_fun at_key Tryz.underlying355 23 (0, 34) (.int .i64 (-1)) rfl rfl rfl ⟨_, Array.mem_of_getElem? (i := 0) rfl, rfl, rfl⟩ ?_
        intro a W hD
        have e0 : a.tmps[6]?.getD undef = .map (some w.heap.size) := (ev a 6).symm.trans (hD _ (Array.mem_of_getElem? (i := 0) rfl) rfl).1
        have e1 : a.tmps[30]?.getD undef = encAt (0, 34) := (ev a 30).symm.trans (hD _ (Array.mem_of_getElem? (i := 1) rfl) rfl)
        clear hD
        simp only [execOp, Act.eval, Array.getD_eq_getD_getElem?, e0, e1]
        first | done | rfl
      · refine lit_pure (by decide) (encAt (0, 35)) rfl ⟨_, rfl⟩ (fun _ => rfl) ?_
        intro a W _
        go_simp
        first | done | rfl
      · refine lit_put encAt_inj lenTab_fun at_key Tryz.underlying355 24 (0, 35) (.int .i64 (-1)) rfl rfl rfl ⟨_, Array.mem_of_getElem? (i := 0) rfl, rfl, rfl⟩ ?_
        intro a W hD
        have e0 : a.tmps[6]?.getD undef = .map (some w.heap.size) := (ev a 6).symm.trans (hD _ (Array.mem_of_getElem? (i := 0) rfl) rfl).1
        have e1 : a.tmps[31]?.getD undef = encAt (0, 35) := (ev a 31).symm.trans (hD _ (Array.mem_of_getElem? (i := 1) rfl) rfl)
        clear hD
        simp only [execOp, Act.eval, Array.getD_eq_getD_getElem?, e0, e1]
        first | done | rfl
      · refine lit_pure (by decide) (encAt (0, 36)) rfl ⟨_, rfl⟩ (fun _ => rfl) ?_
        intro a W _
        go_simp
        first | done | rfl
      · refine lit_put encAt_inj lenTab_fun at_key Tryz.underlying355 25 (0, 36) (.int .i64 (-1)) rfl rfl rfl ⟨_, Array.mem_of_getElem? (i := 0) rfl, rfl, rfl⟩ ?_
        intro a W hD
        have e0 : a.tmps[6]?.getD undef = .map (some w.heap.size) := (ev a 6).symm.trans (hD _ (Array.mem_of_getElem? (i := 0) rfl) rfl).1
        have e1 : a.tmps[32]?.getD undef = encAt (0, 36) := (ev a 32).symm.trans (hD _ (Array.mem_of_getElem? (i := 1) rfl) rfl)
        clear hD
        simp only [execOp, Act.eval, Array.getD_eq_getD_getElem?, e0, e1]
        first | done | rfl
      · refine lit_pure (by decide) (.map (some w.heap.size)) rfl ⟨_, rfl⟩ (fun _ => rfl) ?_
        intro a W hD
        have e0 : a.tmps[6]?.getD undef = .map (some w.heap.size) := (ev a 6).symm.trans (hD _ (Array.mem_of_getElem? (i := 0) rfl) rfl).1
        clear hD
        go_simp
      · refine lit_pure (by decide) (.map (some w.heap.size)) rfl ⟨_, rfl⟩ (fun _ => rfl) ?_
        intro a W hD
        have e0 : a.tmps[33]?.getD undef = .map (some w.heap.size) := (ev a 33).symm.trans (hD _ (Array.mem_of_getElem? (i := 0) rfl) rfl)
        clear hD
        go_simp
    intro vals W hu htab hv
    have v53 : vals 53 = _ := hv 53 (by decide) (by decide)
    have v54 : vals 54 = _ := hv 54 (by decide) (by decide)
    clear hv
    simp only [putAll, Act.put, Nat.zero_add, Nat.reduceAdd, v53, v54, List.setIfInBounds_toArray, List.set_cons_zero, List.set_cons_succ]
    clear v53 v54
    have hlk := HT.out W htab
    clear htab
    go_wp2_with fail
    go_ret
    rw [HQ.out, HR.out]
    exact ⟨rfl, hu⟩
end Go.Proofs.YtglafpdealjlnaaGreat
