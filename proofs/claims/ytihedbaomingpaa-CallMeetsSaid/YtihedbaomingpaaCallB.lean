/- The walks of a call's kind and say. -/
import Derived.Test.YtihedbaomingpaaCallA
namespace Go.Proofs.Ytihedbaomingpaa
open Go.RowKit
set_option linter.unusedSimpArgs false
set_option linter.unusedVariables false
set_option maxRecDepth 20000

theorem IterM.mono {κ : Type} {enc : κ → Value} {w : World} {r g n : Nat} {tab : List (κ × Value)} {S S' : κ × Value → Prop} (h : IterM enc w r g tab S n) (hS : ∀ p ∈ tab, S' p → S p) : IterM enc w r g tab S' n := by
  obtain ⟨es, clock, seen, since, c0, h1, h2, h3, h4, h5, h6, h7, h8⟩ := h
  exact ⟨es, clock, seen, since, c0, h1, h2, h3, h4, h5, h6, h7, fun p hp hs => h8 p hp (hS p hp hs)⟩
theorem kindFor_hit {out : Bool} {does pk : Int} (h : ((pk, out), Value.int .i64 does) ∈ roleTabV) : kindFor out does = pk := by
  have hk : ∀ p ∈ roleTab, kindFor p.1.2 p.2 = p.1.1 := by decide +kernel
  obtain ⟨p, hp, he⟩ := List.mem_map.1 h
  simp only [Prod.mk.injEq, Value.int.injEq, true_and] at he
  have := hk p hp
  rw [he.1, he.2] at this
  exact this
theorem kindFor_miss {out : Bool} {does : Int} (h : ∀ pk, ((pk, out), Value.int .i64 does) ∉ roleTabV) : kindFor out does = 0 := by
  unfold kindFor
  cases hf : roleTab.find? (fun p => p.2 == does && p.1.2 == out) with
  | none => rfl
  | some p =>
    exfalso
    have h1 := List.find?_some hf
    have h2 := List.mem_of_find?_eq_some hf
    simp only [Bool.and_eq_true, beq_iff_eq] at h1
    refine h p.1.1 (List.mem_map.2 ⟨p, h2, ?_⟩)
    rw [← h1.1, ← h1.2]

set_option maxHeartbeats 2000000 in
set_option maxRecDepth 100000 in
theorem kind_for (b : Nat) (k : K) (does : Int) (w : World) (h : CallAt w b k) :
    Calls Try.prog 29 #[.pointer (some ⟨b, 0, none⟩), .int .i64 does] w fun e w' => e = .returned (.int .i64 (kindFor k.out does)) ∧ Upd [] w w' := by
  have HC := Lib.hid h
  obtain ⟨vw, vg, ow, og, hb, -, -⟩ := h
  have HB := Lib.hid hb
  clear hb
  go_enter Try.func29, Try.ntmps29
  go_wp2_with fail
  refine (roles_any _).mono ?_
  rintro e w1 ⟨rfl, ht, hu1⟩
  obtain ⟨m, hm, hm1, hm2⟩ := ht
  obtain ⟨w2, n, hrg, hu2, hz2, hit⟩ := IterM.start hm hm1 hm2 (P := Try.prog) Try.underlying62
  have hlt : w.heap.size < w1.heap.size := by
    obtain ⟨es, clock, hh, _⟩ := hm
    rcases Nat.lt_or_ge w.heap.size w1.heap.size with h | h
    · exact h
    · rw [Array.getElem?_eq_none h] at hh; cases hh
  obtain ⟨g, hg⟩ : ∃ g, g = w.heap.size := ⟨_, rfl⟩
  obtain ⟨r, hr⟩ : ∃ r, r = w1.heap.size := ⟨_, rfl⟩
  have HR : Hid (w.heap.size ≤ g ∧ w.heap.size ≤ r) := by rw [hg, hr]; exact ⟨Nat.le_refl _, by omega⟩
  have hgr : g < r := by omega
  rw [← hg] at hrg
  rw [← hr] at hrg
  rw [← hg, ← hr] at hit
  have HI : Hid (IterM encRole w2 r g roleTabV (fun p => ∃ pk, p = ((pk, k.out), .int .i64 does)) n ∧ Upd [] w w2) := ⟨hit.mono (fun _ _ _ => trivial), hu1.trans hu2⟩
  rw [← hg]
  clear hm hm1 hm2 hu1 hu2 hz2 hit hlt hg hr
  go_wp2_with fail
  clear hrg
  go_loopg [] n (fun m wr => IterM encRole wr r g roleTabV (fun p => ∃ pk, p = ((pk, k.out), .int .i64 does)) m ∧ Upd [] w wr)
  case atStart => exact HI.out
  case round =>
    obtain ⟨hit, hu⟩ := hrel
    have hblk := HB.out.upd hu (by simp)
    have g3 := hblk.cell 3
    simp [K.cells] at g3
    have hbl := hblk.lt
    rcases IterM.next (P := Try.prog) hit encRole_inj 62 with ⟨hno, hnx⟩ | ⟨⟨⟨pk, po⟩, pv⟩, hp, w', n', hnx, hlt, hu', hz', hit', hen⟩
    · have hnx' : ∀ ty : TypeId, (Instr.next (.pointer (some ⟨r, 0, none⟩)) false ty).run Try.prog wr = .ok (.tuple #[.bool false]) wr := fun ty => hnx
      have HK : Hid (kindFor k.out does = 0) := kindFor_miss fun pk hp => hno _ hp ⟨pk, rfl⟩
      have HU := Lib.hid hu
      clear hno hit hu HI hblk hnx
      go_wp2_with fail
      go_ret
      rw [HK.out]
      exact ⟨rfl, HU.out⟩
    · have hnx' : ∀ ty : TypeId, (Instr.next (.pointer (some ⟨r, 0, none⟩)) false ty).run Try.prog wr = .ok (.tuple #[.bool true, encRole (pk, po), pv]) w' := fun ty => hnx
      obtain ⟨pd, rfl⟩ : ∃ pd : Int, pv = .int .i64 pd := by
        obtain ⟨p, _, he⟩ := List.mem_map.1 hp
        simp only [Prod.mk.injEq] at he
        exact ⟨p.2, he.2.symm⟩
      have hu2 : Upd [] w w' := hu.trans' hu' (fun x hx => .inr (by simp at hx; subst hx; exact HR.out.2))
      have hblk2 := HB.out.upd hu2 (by simp)
      have g3 := hblk2.cell 3
      simp [K.cells] at g3
      have hbl := hblk2.lt
      have HU := Lib.hid hu2
      have HP := Lib.hid hp
      have HIT := Lib.hid hit'
      simp only [encRole] at hnx' hen
      clear hu hu' hu2 hblk hblk2 hit hit' hp hnx HI
      by_cases t1 : pd = does
      · subst t1
        by_cases t2 : po = k.out
        · subst t2
          have HK : Hid (kindFor k.out pd = pk) := kindFor_hit HP.out
          obtain ⟨po, hpo⟩ : ∃ o, o = k.out := ⟨_, rfl⟩
          rw [← hpo] at hen hnx' g3
          clear hpo
          have tb : (po == po) = true := by simp
          go_wp2_with fail
          go_quiet (fail)
          go_wp2_with fail
          go_ret
          rw [HK.out]
          exact ⟨rfl, (HU.out.alloc _).drewN _⟩
        · obtain ⟨ko, hko⟩ : ∃ o, o = k.out := ⟨_, rfl⟩
          rw [← hko] at g3 t2
          have HKO := Lib.hid hko
          clear hko
          have tb : (po == ko) = false := by simpa using t2
          have HT2 := Lib.hid t2
          clear t2
          go_wp2_with fail
          go_quiet (fail)
          go_wp2_with fail
          go_roundg n'
          case rel =>
            refine ⟨(HIT.out.mono fun q hq => ?_).upd (((Upd.refl [] w').alloc _).drewN _) (by simp) (by simp), (HU.out.alloc _).drewN _⟩
            rintro ⟨qk, rfl⟩
            refine ⟨⟨qk, rfl⟩, fun e => ?_⟩
            simp only [Prod.mk.injEq] at e
            exact HT2.out (by rw [HKO.out]; exact e.1.2.symm)
          case measure => omega
      · have tb : (pd == does) = false := by simpa using t1
        have HT1 := Lib.hid t1
        clear t1
        go_wp2_with fail
        go_quiet (fail)
        go_wp2_with fail
        go_roundg n'
        case rel =>
          refine ⟨(HIT.out.mono fun q hq => ?_).upd (((Upd.refl [] w').alloc _).drewN _) (by simp) (by simp), (HU.out.alloc _).drewN _⟩
          rintro ⟨qk, rfl⟩
          refine ⟨⟨qk, rfl⟩, fun e => ?_⟩
          simp only [Prod.mk.injEq, Value.int.injEq, true_and] at e
          exact HT1.out e.2.symm
        case measure => omega
end Go.Proofs.Ytihedbaomingpaa
