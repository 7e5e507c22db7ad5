/- Maps with keys that are ints, and a value put over another one. No program in sight. -/
import Derived.Test.YtljiichcmljbgaaGreatQMaps2
namespace Go.Proofs.YtljiichcmljbgaaGreat
open Go.RowKit Go.Maps
open Go.ChangeMaps (setBlock heap_setBlock_same heap_setBlock_other)
set_option linter.unusedSimpArgs false
set_option linter.unusedVariables false

def encI (k : Int) : Value := .int .i64 k
theorem encI_inj (a b : Int) (h : encI a = encI b) : a = b := by simpa [encI] using h
theorem findNow_int (q : IntKind) (k : Int) : ∀ (m : List (Int × Value)) (es : List MapEntry) (i : Nat), es.map (fun e => (e.key, e.val)) = m.map (fun p => (encI p.1, p.2)) →
    Instr.findNow (.int q) (encI k) es i = some (lookIx k m i)
  | [], es, i, h => by
    have : es = [] := by simpa using h
    subst this
    rfl
  | p :: m, [], i, h => by simp at h
  | p :: m, e :: es, i, h => by
    simp only [List.map_cons, List.cons.injEq, Prod.mk.injEq] at h
    obtain ⟨⟨h1, h2⟩, h3⟩ := h
    rw [Instr.findNow, h1, lookIx]
    by_cases hk : k = p.1
    · rw [if_pos hk, hk]
      simp [Instr.sameNow, encI, h2]
    · rw [if_neg hk]
      have : (k == p.1) = false := by simpa using hk
      simp [Instr.sameNow, encI, this, hk]
      exact findNow_int q k m es (i + 1) h3
theorem int_key {P : Program} {K : TypeId} (hK : P.underlying K = some (.int .i64)) : KeyEnc Int P K encI := by
  refine ⟨fun em a w => ?_, fun k m es w h => ?_, fun a => ?_⟩
  · exact MapKept.run_checkKey hK (by simp [MapKept.IsKey, encI]) em 9999
  · exact MapKept.run_findKey hK (findNow_int .i64 k m es 0 h)
  · simp [Instr.sameBits, encI]

section
variable {κ : Type} [DecidableEq κ] {P : Program} {K E T : TypeId} {enc : κ → Value}
/-- A key's value. -/
def valM (m : List (κ × Value)) (k : κ) (z : Value) : Value := ((lookIx k m 0).map (·.2)).getD z
theorem lookIx_val_shift (k : κ) : ∀ (m : List (κ × Value)) (i j : Nat), (lookIx k m i).map (·.2) = (lookIx k m j).map (·.2)
  | [], _, _ => rfl
  | p :: m, i, j => by
    rw [lookIx, lookIx]
    by_cases h : k = p.1
    · rw [if_pos h, if_pos h]; rfl
    · rw [if_neg h, if_neg h]; exact lookIx_val_shift k m _ _
theorem lookIx_append (k k' : κ) (v : Value) : ∀ (m : List (κ × Value)) (i : Nat), lookIx k m i = none → (lookIx k' (m ++ [(k, v)]) i).map (·.2) = if k' = k then some v else (lookIx k' m i).map (·.2)
  | [], i, _ => by
    by_cases h : k' = k
    · simp [lookIx, h]
    · simp [lookIx, h]
  | p :: m, i, hn => by
    rw [lookIx] at hn
    by_cases hk : k = p.1
    · rw [if_pos hk] at hn; cases hn
    · rw [if_neg hk] at hn
      rw [List.cons_append, lookIx, lookIx]
      by_cases h : k' = p.1
      · rw [if_pos h, if_pos h, if_neg (by rw [h]; exact fun e => hk e.symm)]
      · rw [if_neg h, if_neg h]
        exact lookIx_append k k' v m (i + 1) hn
theorem lookIx_set (k k' : κ) (v u : Value) : ∀ (m : List (κ × Value)) (i n : Nat), lookIx k m i = some (i + n, u) → (lookIx k' (m.set n (k, v)) i).map (·.2) = if k' = k then some v else (lookIx k' m i).map (·.2)
  | [], i, n, h => by cases h
  | p :: m, i, n, hn => by
    rw [lookIx] at hn
    by_cases hk : k = p.1
    · rw [if_pos hk] at hn
      simp only [Option.some.injEq, Prod.mk.injEq] at hn
      obtain rfl : n = 0 := by omega
      rw [List.set_cons_zero, lookIx, lookIx]
      by_cases h : k' = k
      · rw [if_pos h, if_pos h]; rfl
      · rw [if_neg h, if_neg h, if_neg (by rw [← hk]; exact h)]
    · rw [if_neg hk] at hn
      cases n with
      | zero =>
        exfalso
        obtain ⟨j, hj, -⟩ := lookIx_some hn
        omega
      | succ n =>
        rw [List.set_cons_succ, lookIx, lookIx]
        by_cases h : k' = p.1
        · rw [if_pos h, if_pos h, if_neg (by rw [h]; exact fun e => hk e.symm)]
        · rw [if_neg h, if_neg h]
          exact lookIx_set k k' v u m (i + 1) n (by rw [hn]; congr 2; omega)
/-- A pair is put, over another one of its key or behind all. -/
theorem HoldsM.over {w : World} {g : Nat} {m : List (κ × Value)} (h : HoldsM enc w g m) (kl : KeyEnc κ P K enc) (hT : P.underlying T = some (.map K E)) (k : κ) (v : Value) :
    ∃ w' m', (Instr.mapUpdate T (.map (some g)) (enc k) v).run P w = .ok () w' ∧ HoldsM enc w' g m' ∧ (∀ k' z, valM m' k' z = if k' = k then v else valM m k' z) ∧ Upd [g] w w' ∧ w'.heap.size = w.heap.size := by
  obtain ⟨es, clock, hb, hes, hst⟩ := h
  have hfind := kl.find k m es.toList w hes
  cases hl : lookIx k m 0 with
  | none =>
    refine ⟨setBlock w g (.map (es.push { key := enc k, val := v, born := clock }) (clock + 1)), m ++ [(k, v)], ?_, ⟨_, _, heap_setBlock_same hb _, by simp [hes], hst.push _ _⟩, fun k' z => ?_,
      ⟨rfl, rfl, rfl, by simp [setBlock], fun i _ hi => heap_setBlock_other hb _ (fun e => hi (by rw [e]; simp))⟩, by simp [setBlock]⟩
    · rw [hl] at hfind
      simp [Instr.mapUpdate, run_underlying hT, MapKept.run_getObj_map hb, kl.check, hfind, MapKept.run_setObj_map _ hb, Result.andThen, setBlock]
    · rw [valM, lookIx_append k k' v m 0 hl, valM]
      split <;> rfl
  | some q =>
    obtain ⟨j, u⟩ := q
    obtain ⟨n, hn, hm⟩ := lookIx_some hl
    obtain rfl : j = n := by omega
    rw [hl] at hfind
    have hej : ∃ e, es[j]? = some e ∧ e.key = enc k ∧ e.val = u := by
      have := congrArg (fun l => l[j]?) hes
      simp only [List.getElem?_map, hm, Option.map_some, Array.getElem?_toList] at this
      cases he : es[j]? with
      | none => rw [he] at this; simp at this
      | some e =>
        rw [he] at this
        simp only [Option.map_some, Option.some.injEq, Prod.mk.injEq] at this
        exact ⟨e, rfl, this.1, this.2⟩
    obtain ⟨e, he, hek, hev⟩ := hej
    have hstay : ∀ w', (Instr.keyThatStays (enc k) (enc k)).run P w' = .ok (enc k) w' := fun w' => by
      unfold Instr.keyThatStays
      rw [if_pos (kl.bits k)]
      rfl
    refine ⟨setBlock w g (.map (es.modify j fun e => { e with key := enc k, val := v }) clock), m.set j (k, v), ?_, ⟨_, _, heap_setBlock_same hb _, ?_, hst.modify _ _ _⟩, fun k' z => ?_,
      ⟨rfl, rfl, rfl, by simp [setBlock], fun i _ hi => heap_setBlock_other hb _ (fun e => hi (by rw [e]; simp))⟩, by simp [setBlock]⟩
    · simp [Instr.mapUpdate, run_underlying hT, MapKept.run_getObj_map hb, kl.check, hfind, he, hek, hstay, MapKept.run_setObj_map _ hb, Result.andThen, setBlock]
    · have hes' : ∀ i : Nat, es[i]?.map (fun e : MapEntry => (e.key, e.val)) = m[i]?.map (fun p : κ × Value => (enc p.1, p.2)) := fun i => by
        have := congrArg (fun l => l[i]?) hes
        simpa only [List.getElem?_map, Array.getElem?_toList] using this
      apply List.ext_getElem?
      intro i
      simp only [List.getElem?_map, Array.getElem?_toList, Array.getElem?_modify, List.getElem?_set]
      by_cases hij : j = i
      · subst hij
        have hlt : j < m.length := (List.getElem?_eq_some_iff.1 hm).1
        rw [if_pos rfl, if_pos rfl, if_pos hlt, he]
        simp
      · rw [if_neg hij, if_neg hij]
        exact hes' i
    · rw [valM, lookIx_set k k' v u m 0 j (by rw [hl, Nat.zero_add]), valM]
      split <;> rfl
theorem HoldsM.val {w : World} {g : Nat} {m : List (κ × Value)} (h : HoldsM enc w g m) (kl : KeyEnc κ P K enc) (hT : P.underlying T = some (.map K E)) {z : Value} (hz : (zeroValue E).run P w = .ok z w) (k : κ) :
    (Instr.lookup T (.map (some g)) (enc k) false).run P w = .ok (valM m k z) w := (h.look kl hT hz k).2
omit [DecidableEq κ] in
theorem HoldsM.away {w w' : World} {g : Nat} {m : List (κ × Value)} {F : List Nat} (h : HoldsM enc w g m) (hu : Upd F w w') (hg : g ∉ F) : HoldsM enc w' g m := by
  obtain ⟨es, clock, hb, hr⟩ := h
  refine ⟨es, clock, (hu.block g ?_ hg).trans hb, hr⟩
  rcases Nat.lt_or_ge g w.heap.size with h | h
  · exact h
  · rw [Array.getElem?_eq_none h] at hb; cases hb
end
end Go.Proofs.YtljiichcmljbgaaGreat
