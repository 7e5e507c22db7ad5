/- Maps with keys of any small type, as lists of pairs. No program in sight. -/
import Derived.Maps.Own
import Derived.Test.YtljiichcmljbgaaGreatQLib
namespace Go.Proofs.YtljiichcmljbgaaGreat
open Go.RowKit Go.Maps
open Go.ChangeMaps (setBlock heap_setBlock_same heap_setBlock_other)
set_option linter.unusedSimpArgs false
set_option linter.unusedVariables false

/-- The place and value of a key, from i on. -/
def lookIx {κ : Type} [DecidableEq κ] (k : κ) : List (κ × Value) → Nat → Option (Nat × Value)
  | [], _ => none
  | p :: m, i => if k = p.1 then some (i, p.2) else lookIx k m (i + 1)
/-- What a key's type must offer. -/
structure KeyEnc (κ : Type) [DecidableEq κ] (P : Program) (K : TypeId) (enc : κ → Value) : Prop where
  check : ∀ em a w, (Instr.checkKey em 10000 K (enc a)).run P w = .ok () w
  find : ∀ k (m : List (κ × Value)) (es : List MapEntry) w, es.map (fun e => (e.key, e.val)) = m.map (fun p => (enc p.1, p.2)) → (Instr.findKey K (enc k) es).run P w = .ok (lookIx k m 0) w
  bits : ∀ a, Instr.sameBits 10000 (enc a) (enc a) = true
/-- The stamps of a map's entries: behind one another, each once. -/
def Stamped (es : Array MapEntry) (clock : Nat) : Prop := (∀ e ∈ es.toList, e.born < clock) ∧ (es.toList.map (·.born)).Nodup
theorem Stamped.push {es : Array MapEntry} {clock : Nat} (h : Stamped es clock) (k v : Value) : Stamped (es.push { key := k, val := v, born := clock }) (clock + 1) := by
  refine ⟨?_, ?_⟩
  · intro e he
    simp only [Array.toList_push, List.mem_append, List.mem_singleton] at he
    rcases he with he | rfl
    · have := h.1 e he; omega
    · exact Nat.lt_succ_self _
  · rw [Array.toList_push, List.map_append, List.nodup_append]
    refine ⟨h.2, by simp, ?_⟩
    intro a ha b hb
    simp only [List.map_cons, List.map_nil, List.mem_singleton] at hb
    subst hb
    obtain ⟨e, he, rfl⟩ := List.mem_map.1 ha
    have := h.1 e he
    omega
theorem Stamped.modify {es : Array MapEntry} {clock : Nat} (h : Stamped es clock) (j : Nat) (k v : Value) : Stamped (es.modify j fun e => { e with key := k, val := v }) clock := by
  have hb : (es.modify j fun e => { e with key := k, val := v }).toList.map (·.born) = es.toList.map (·.born) := by
    apply List.ext_getElem?
    intro i
    simp only [List.getElem?_map, Array.getElem?_toList, Array.getElem?_modify]
    by_cases hij : j = i
    · subst hij
      rw [if_pos rfl]
      cases es[j]? <;> rfl
    · rw [if_neg hij]
  refine ⟨fun e he => ?_, by rw [hb]; exact h.2⟩
  have : e.born ∈ es.toList.map (·.born) := by rw [← hb]; exact List.mem_map.2 ⟨e, he, rfl⟩
  obtain ⟨e', he', hee⟩ := List.mem_map.1 this
  have := h.1 e' he'
  rw [← hee]; exact this
/-- Block g is a map that holds these pairs. -/
def HoldsM {κ : Type} (enc : κ → Value) (w : World) (g : Nat) (m : List (κ × Value)) : Prop :=
  ∃ es clock, w.heap[g]? = some (.map es clock) ∧ es.toList.map (fun e => (e.key, e.val)) = m.map (fun p => (enc p.1, p.2)) ∧ Stamped es clock

section
variable {κ : Type} [DecidableEq κ] {P : Program} {K E T : TypeId} {enc : κ → Value}

theorem run_findAsking (heq : ∀ a b w, (Op.equal K (enc a) (enc b)).run P w = .ok (decide (a = b)) w) (k : κ) (w : World) : ∀ (m : List (κ × Value)) (es : List MapEntry) (i : Nat),
    es.map (fun e => (e.key, e.val)) = m.map (fun p => (enc p.1, p.2)) → (Instr.findAsking K (enc k) es i).run P w = .ok (lookIx k m i) w
  | [], es, i, h => by
    have : es = [] := by simpa using h
    subst this
    rfl
  | p :: m, [], i, h => by simp at h
  | p :: m, e :: es, i, h => by
    simp only [List.map_cons, List.cons.injEq, Prod.mk.injEq] at h
    obtain ⟨⟨h1, h2⟩, h3⟩ := h
    have ih := run_findAsking heq k w m es (i + 1) h3
    rw [Instr.findAsking, lookIx, h1]
    simp only [Sem.run_bind, heq, Result.andThen_ok]
    by_cases hk : k = p.1
    · simp [hk, h2]
    · simp [hk, ih]
theorem KeyEnc.of_struct {d : TypeDesc} (hK : P.underlying K = some d) (hnow : ∀ a b, Instr.sameNow d (enc a) (enc b) = none) (heq : ∀ a b w, (Op.equal K (enc a) (enc b)).run P w = .ok (decide (a = b)) w)
    (check : ∀ em a w, (Instr.checkKey em 10000 K (enc a)).run P w = .ok () w) (bits : ∀ a, Instr.sameBits 10000 (enc a) (enc a) = true) : KeyEnc κ P K enc := by
  refine ⟨check, fun k m es w h => ?_, bits⟩
  unfold Instr.findKey
  simp only [Sem.run_bind, run_underlying hK, Result.andThen_ok]
  cases es with
  | nil =>
    have : m = [] := by simpa using h.symm
    subst this
    rfl
  | cons e es =>
    cases m with
    | nil => simp at h
    | cons p m =>
      have h1 : e.key = enc p.1 := by
        simp only [List.map_cons, List.cons.injEq, Prod.mk.injEq] at h
        exact h.1.1
      have : Instr.findNow d (enc k) (e :: es) 0 = none := by rw [Instr.findNow, h1, hnow]
      rw [this]
      exact run_findAsking heq k w (p :: m) (e :: es) 0 h

theorem lookIx_none {k : κ} : ∀ {m : List (κ × Value)} {i : Nat}, lookIx k m i = none → ∀ p ∈ m, p.1 ≠ k
  | [], _, _ => by simp
  | p :: m, i, h => by
    rw [lookIx] at h
    by_cases hk : k = p.1
    · rw [if_pos hk] at h; cases h
    · rw [if_neg hk] at h
      intro q hq
      rcases List.mem_cons.1 hq with rfl | hq
      · exact fun e => hk e.symm
      · exact lookIx_none h q hq
theorem lookIx_some {k : κ} {v : Value} : ∀ {m : List (κ × Value)} {i j : Nat}, lookIx k m i = some (j, v) → ∃ n, j = i + n ∧ m[n]? = some (k, v)
  | [], _, _, h => by cases h
  | p :: m, i, j, h => by
    rw [lookIx] at h
    by_cases hk : k = p.1
    · rw [if_pos hk] at h
      simp only [Option.some.injEq, Prod.mk.injEq] at h
      exact ⟨0, by omega, by simp [hk, ← h.2]⟩
    · rw [if_neg hk] at h
      obtain ⟨n, hn, hm⟩ := lookIx_some h
      exact ⟨n + 1, by omega, by simpa using hm⟩

/-- A pair is put that the map holds not at all, or just so. -/
theorem HoldsM.put {w : World} {g : Nat} {m : List (κ × Value)} (h : HoldsM enc w g m) (kl : KeyEnc κ P K enc) (hT : P.underlying T = some (.map K E)) (k : κ) (v : Value) (hv : ∀ p ∈ m, p.1 = k → p.2 = v) :
    ∃ w' m', (Instr.mapUpdate T (.map (some g)) (enc k) v).run P w = .ok () w' ∧ HoldsM enc w' g m' ∧ (m' = m ∨ m' = m ++ [(k, v)]) ∧ (k, v) ∈ m' ∧ Upd [g] w w' ∧ w'.heap.size = w.heap.size := by
  obtain ⟨es, clock, hb, hes, hst⟩ := h
  have hfind := kl.find k m es.toList w hes
  cases hl : lookIx k m 0 with
  | none =>
    refine ⟨setBlock w g (.map (es.push { key := enc k, val := v, born := clock }) (clock + 1)), m ++ [(k, v)], ?_, ⟨_, _, heap_setBlock_same hb _, by simp [hes], hst.push _ _⟩, .inr rfl, by simp,
      ⟨rfl, rfl, rfl, by simp [setBlock], fun i _ hi => heap_setBlock_other hb _ (fun e => hi (by rw [e]; simp))⟩, by simp [setBlock]⟩
    rw [hl] at hfind
    simp [Instr.mapUpdate, run_underlying hT, MapKept.run_getObj_map hb, kl.check, hfind, MapKept.run_setObj_map _ hb, Result.andThen, setBlock]
  | some q =>
    obtain ⟨j, u⟩ := q
    obtain ⟨n, hn, hm⟩ := lookIx_some hl
    obtain rfl : j = n := by omega
    have hu : u = v := hv _ (List.mem_of_getElem? hm) rfl
    subst hu
    rw [hl] at hfind
    have hej : ∃ e, es[j]? = some e ∧ e.key = enc k ∧ e.val = u := by
      have := congrArg (fun l => l[j]?) hes
      simp only [List.getElem?_map, hm, Option.map_some, Array.getElem?_toList] at this
      cases he : es[j]? with
      | none => rw [he] at this; simp at this
      | some e =>
        rw [he] at this
        simp only [Option.map_some, Option.some.injEq, Prod.mk.injEq] at this
        exact ⟨e, rfl, this.1, this.2⟩
    obtain ⟨e, he, hek, hev⟩ := hej
    have hstay : ∀ w', (Instr.keyThatStays (enc k) (enc k)).run P w' = .ok (enc k) w' := fun w' => by
      unfold Instr.keyThatStays
      rw [if_pos (kl.bits k)]
      rfl
    refine ⟨setBlock w g (.map (es.modify j fun e => { e with key := enc k, val := u }) clock), m, ?_, ⟨_, _, heap_setBlock_same hb _, ?_, hst.modify _ _ _⟩, .inl rfl, List.mem_of_getElem? hm,
      ⟨rfl, rfl, rfl, by simp [setBlock], fun i _ hi => heap_setBlock_other hb _ (fun e => hi (by rw [e]; simp))⟩, by simp [setBlock]⟩
    · simp [Instr.mapUpdate, run_underlying hT, MapKept.run_getObj_map hb, kl.check, hfind, he, hek, hstay, MapKept.run_setObj_map _ hb, Result.andThen, setBlock]
    · rw [← hes]
      apply List.ext_getElem?
      intro i
      simp only [List.getElem?_map, Array.getElem?_toList, Array.getElem?_modify]
      by_cases hij : j = i
      · subst hij
        rw [if_pos rfl, he]
        simp [hek, hev]
      · rw [if_neg hij]
/-- A key is looked up. -/
theorem HoldsM.look {w : World} {g : Nat} {m : List (κ × Value)} (h : HoldsM enc w g m) (kl : KeyEnc κ P K enc) (hT : P.underlying T = some (.map K E)) {z : Value} (hz : (zeroValue E).run P w = .ok z w) (k : κ) :
    (Instr.lookup T (.map (some g)) (enc k) true).run P w = .ok (.tuple #[((lookIx k m 0).map (·.2)).getD z, .bool (lookIx k m 0).isSome]) w ∧ (Instr.lookup T (.map (some g)) (enc k) false).run P w = .ok (((lookIx k m 0).map (·.2)).getD z) w := by
  obtain ⟨es, clock, hb, hes, hst⟩ := h
  have hfind := kl.find k m es.toList w hes
  constructor
  all_goals
    cases hl : lookIx k m 0 with
    | none =>
      rw [hl] at hfind
      simp [Instr.lookup, run_underlying hT, MapKept.run_getObj_map hb, kl.check, hfind, hz, Result.andThen]
    | some q =>
      rw [hl] at hfind
      simp [Instr.lookup, run_underlying hT, MapKept.run_getObj_map hb, kl.check, hfind, Result.andThen]
end
end Go.Proofs.YtljiichcmljbgaaGreat
