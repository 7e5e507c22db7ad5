/- The walks of opts.lay, opts.numbered, opts.PutData, opts.Put. -/
import Derived.Test.YthkfgjmifoeljaaGreatOptC
namespace Go.Proofs.YthkfgjmifoeljaaGreat
open Go.RowKit
set_option linter.unusedSimpArgs false
set_option linter.unusedVariables false

/-- A packet: code, id, options, data. -/
structure Pk where
  code : Int
  id : Int
  opts : List Tg
  data : ByteArray
deriving DecidableEq
def Pk.val (p : Pk) (v : Value) : Value := .agg #[.int .i64 p.code, .int .i64 p.id, v, .string p.data]
def layB (c i : Int) (b : ByteArray) : ByteArray × Int :=
  if 1488 < b.size then (⟨#[]⟩, 2) else (strOfNums [c % 256, i % 256] ++ be 2 (b.size + 4) ++ b, 0)

set_option maxHeartbeats 1000000 in
theorem lay_any (c i : Int) (v d : Value) (b : ByteArray) (hb : b.size ≤ maxLen) (w : World) :
    Calls Tryz.prog 32 #[.agg #[.int .i64 c, .int .i64 i, v, d], .string b] w fun e w' => e = .returned (.tuple #[.string (layB c i b).1, .int .i64 (layB c i b).2]) ∧ Upd [] w w' := by
  simp only [maxLen] at hb
  by_cases t1 : 1488 < b.size
  · have HQ : Hid (layB c i b = (⟨#[]⟩, 2)) := if_pos t1
    rw [HQ.out]
    have t1' : (1488 : Int) < b.size := by omega
    go_enter Tryz.func32, Tryz.ntmps32
    go_wp2_with fail
    go_ret2
    exact ⟨rfl, (Upd.refl _ _).alloc _⟩
  · have HQ : Hid (layB c i b = (strOfNums [c % 256, i % 256] ++ be 2 (b.size + 4) ++ b, 0)) := if_neg t1
    rw [HQ.out]
    have t1' : ¬ (1488 : Int) < b.size := by omega
    clear HQ
    go_enter Tryz.func32, Tryz.ntmps32
    go_wp2_with fail
    have A0 := Blk.new w 24 #[Value.int IntKind.i64 c, Value.int IntKind.i64 i, v, d]
    have U0 : Upd [] w (w.alloc (Obj.cells #[Value.int IntKind.i64 c, Value.int IntKind.i64 i, v, d] 24)) := (Upd.refl [] w).alloc _
    generalize w.alloc (Obj.cells #[Value.int IntKind.i64 c, Value.int IntKind.i64 i, v, d] 24) = w1 at *
    refine (wirePut_ok _ 2 (by omega) (by constructor <;> omega) _).mono ?_
    rintro e w2 ⟨rfl, hu⟩
    have hc0 := (A0.upd hu (by simp)).cell 0
    have hc1 := (A0.upd hu (by simp)).cell 1
    simp at hc0 hc1
    have HU := Lib.hid (U0.trans hu)
    have hsz := hu.size
    have hlt := A0.lt
    have hcv := str2 Tryz.underlying71 Tryz.underlying5 Tryz.underlying9 (Blk.new w2 5 #[.int .u8 (c % 256), .int .u8 (i % 256)])
    have ha1 := run_string_add_sum (P := Tryz.prog) (w2.alloc (.cells #[.int .u8 (c % 256), .int .u8 (i % 256)] 5)) (strOfNums [c % 256, i % 256]) (be 2 (b.size + 4)) (by rw [strOfNums_size, be_size]; simp)
    have ha2 := run_string_add_sum (P := Tryz.prog) (w2.alloc (.cells #[.int .u8 (c % 256), .int .u8 (i % 256)] 5)) (strOfNums [c % 256, i % 256] ++ be 2 (b.size + 4)) b (by rw [ByteArray.size_append, strOfNums_size, be_size]; simp; omega)
    clear A0 U0 hu
    go_wp2_with fail
    go_ret2
    exact ⟨rfl, HU.out.alloc _⟩

def numberedB (c i : Int) : Bool := (decide (0 ≤ c) && decide (c ≤ 255)) && (decide (0 ≤ i) && decide (i ≤ 255))
set_option maxHeartbeats 400000 in
theorem numbered_any (c i : Int) (v d : Value) (w : World) :
    Calls Tryz.prog 30 #[.agg #[.int .i64 c, .int .i64 i, v, d]] w fun e w' => e = .returned (.bool (numberedB c i)) ∧ Upd [] w w' := by
  by_cases t1 : 0 ≤ c ∧ c ≤ 255
  · have h1 : (decide (0 ≤ c) && decide (c ≤ 255)) = true := by simpa using t1
    have HQ : Hid (numberedB c i = (decide (0 ≤ i) && decide (i ≤ 255))) := by show _ = _; rw [numberedB, h1]; rfl
    rw [HQ.out]
    go_enter Tryz.func30, Tryz.ntmps30
    go_wp2_with (go_at_call 37; refine (optsIn_any _ _ _ _).mono ?_; rintro e w' ⟨rfl, rfl⟩)
    go_ret
    exact ⟨rfl, (Upd.refl _ _).alloc _⟩
  · have h1 : (decide (0 ≤ c) && decide (c ≤ 255)) = false := by simpa using fun h => by omega
    have HQ : Hid (numberedB c i = false) := by show _ = _; rw [numberedB, h1]; rfl
    rw [HQ.out]
    go_enter Tryz.func30, Tryz.ntmps30
    go_wp2_with (go_at_call 37; refine (optsIn_any _ _ _ _).mono ?_; rintro e w' ⟨rfl, rfl⟩)
    go_ret
    exact ⟨rfl, (Upd.refl _ _).alloc _⟩

def Pk.putData (p : Pk) : ByteArray × Int := if numberedB p.code p.id = false ∨ 0 < p.opts.length then (⟨#[]⟩, 1) else layB p.code p.id p.data
set_option maxHeartbeats 1000000 in
theorem putData_any (p : Pk) (v : Value) (w : World) (hl : TgsAt w v p.opts) (hd : p.data.size ≤ maxLen) :
    Calls Tryz.prog 13 #[p.val v] w fun e w' => e = .returned (.tuple #[.string p.putData.1, .int .i64 p.putData.2]) ∧ Upd [] w w' := by
  obtain ⟨ao, cap, rfl, -, -, -⟩ := hl
  obtain ⟨c, i, l, d⟩ := p
  obtain ⟨n, hn⟩ : ∃ n, n = l.length := ⟨_, rfl⟩
  simp only [Pk.val, Pk.putData]
  rw [← hn]
  clear hn
  have HD := Lib.hid hd
  clear hd
  have U0 : Upd [] w (w.alloc (Obj.cells #[Value.int IntKind.i64 c, Value.int IntKind.i64 i, .slice ao n cap, .string d] 24)) := (Upd.refl [] w).alloc _
  have A0 := Blk.new w 24 #[Value.int IntKind.i64 c, Value.int IntKind.i64 i, .slice ao n cap, .string d]
  obtain ⟨A, hA⟩ : ∃ A, A = Obj.cells #[Value.int IntKind.i64 c, Value.int IntKind.i64 i, .slice ao n cap, .string d] 24 := ⟨_, rfl⟩
  rw [← hA] at A0 U0
  have HA := Lib.hid hA
  clear hA
  have HC : Hid (∀ W, Upd [] (w.alloc A) W → W.cell? ⟨w.heap.size, 0, none⟩ = some (.int .i64 c) ∧ W.cell? ⟨w.heap.size, 1, none⟩ = some (.int .i64 i) ∧ W.cell? ⟨w.heap.size, 2, none⟩ = some (.slice ao n cap) ∧ W.cell? ⟨w.heap.size, 3, none⟩ = some (.string d)) := fun W hu =>
    ⟨(A0.upd hu (by simp)).cell 0, (A0.upd hu (by simp)).cell 1, (A0.upd hu (by simp)).cell 2, (A0.upd hu (by simp)).cell 3⟩
  have HU0 := Lib.hid U0
  clear A0 U0
  by_cases t1 : numberedB c i = true
  · by_cases t2 : 0 < n
    · have HQ : Hid ((if numberedB c i = false ∨ 0 < n then ((⟨#[]⟩, 1) : ByteArray × Int) else layB c i d) = (⟨#[]⟩, 1)) := if_pos (.inr t2)
      rw [HQ.out]
      have T1 := Lib.hid t1
      clear t1
      have t2' : (0 : Int) < n := by omega
      go_enter Tryz.func13, Tryz.ntmps13
      go_wp2_with fail
      rw [← HA.out]
      refine (numbered_any _ _ _ _ _).mono ?_
      rintro e w1 ⟨rfl, hu⟩
      rw [T1.out]
      have hc := HC.out w1 hu
      go_wp2_with fail
      go_ret2
      exact ⟨rfl, HU0.out.trans hu⟩
    · have HQ : Hid ((if numberedB c i = false ∨ 0 < n then ((⟨#[]⟩, 1) : ByteArray × Int) else layB c i d) = layB c i d) := if_neg (by rw [t1]; simp; omega)
      rw [HQ.out]
      have T1 := Lib.hid t1
      clear t1
      have t2' : ¬ (0 : Int) < n := by omega
      go_enter Tryz.func13, Tryz.ntmps13
      go_wp2_with fail
      rw [← HA.out]
      refine (numbered_any _ _ _ _ _).mono ?_
      rintro e w1 ⟨rfl, hu⟩
      rw [T1.out]
      have hc := HC.out w1 hu
      go_wp2_with fail
      refine (lay_any c i _ _ d HD.out _).mono ?_
      rintro e w2 ⟨rfl, hu2⟩
      go_wp2_with fail
      go_ret2
      exact ⟨rfl, (HU0.out.trans hu).trans hu2⟩
  · have t1 : numberedB c i = false := by simpa using t1
    have HQ : Hid ((if numberedB c i = false ∨ 0 < n then ((⟨#[]⟩, 1) : ByteArray × Int) else layB c i d) = (⟨#[]⟩, 1)) := if_pos (.inl t1)
    rw [HQ.out]
    have T1 := Lib.hid t1
    clear t1
    go_enter Tryz.func13, Tryz.ntmps13
    go_wp2_with fail
    rw [← HA.out]
    refine (numbered_any _ _ _ _ _).mono ?_
    rintro e w1 ⟨rfl, hu⟩
    rw [T1.out]
    go_wp2_with fail
    go_ret2
    exact ⟨rfl, HU0.out.trans hu⟩

def Pk.bad (p : Pk) : Bool := !numberedB p.code p.id || (decide (0 < p.opts.length) && !hasOpts p.code) || (!decide (p.data.size = 0) && hasOpts p.code)
def Pk.put (p : Pk) : ByteArray × Int :=
  if p.bad = true then (⟨#[]⟩, 1) else if (putOpts p.opts).2 ≠ 0 then (⟨#[]⟩, (putOpts p.opts).2) else layB p.code p.id ((putOpts p.opts).1 ++ p.data)
theorem encOpts_size (l : List Tg) (h : ∀ t ∈ l, t.s.size ≤ 253) : (encOpts l).size ≤ l.length * 255 := by
  induction l with
  | nil => exact Nat.le_refl _
  | cons t l ih =>
    have h1 := ih (fun x hx => h x (by simp [hx]))
    have h2 := h t (by simp)
    rw [encOpts, ByteArray.size_append, obytes_size, List.length_cons, Nat.add_mul]
    omega
theorem putOpts_ok {l : List Tg} {b : ByteArray} (h : putOpts l = (b, 0)) : b = encOpts l ∧ l.length ≤ 30 ∧ ∀ t ∈ l, 1 ≤ t.k ∧ t.k ≤ 255 ∧ t.s.size ≤ 253 := by
  unfold putOpts at h
  split at h
  · simp at h
  · split at h
    · simp at h
    · rename_i h1 h2
      refine ⟨(Prod.ext_iff.1 h).1.symm, by omega, fun t ht => ?_⟩
      have : ¬ optWrong t = true := fun h => h2 (List.any_eq_true.2 ⟨t, ht, h⟩)
      simp [optWrong] at this
      exact ⟨this.1.1, this.1.2, this.2⟩
theorem putOpts_size (l : List Tg) : (putOpts l).1.size ≤ 7650 := by
  obtain ⟨b, e, h⟩ : ∃ b e, putOpts l = (b, e) := ⟨_, _, rfl⟩
  rw [h]
  by_cases he : e = 0
  · subst he
    obtain ⟨rfl, h1, h2⟩ := putOpts_ok h
    have := encOpts_size l (fun t ht => (h2 t ht).2.2)
    have h3 : l.length * 255 ≤ 30 * 255 := Nat.mul_le_mul_right _ h1
    simp only
    omega
  · unfold putOpts at h
    split at h
    · rw [← (Prod.ext_iff.1 h).1]; decide
    · split at h
      · rw [← (Prod.ext_iff.1 h).1]; decide
      · exact absurd (Prod.ext_iff.1 h).2.symm he

set_option maxHeartbeats 4000000 in
theorem optsPut_any (p : Pk) (v : Value) (w : World) (hl : TgsAt w v p.opts) (hls : ∀ t ∈ p.opts, t.s.size ≤ 140737488355328) (hd : p.data.size ≤ 140737488355328) :
    Calls Tryz.prog 7 #[p.val v] w fun e w' => e = .returned (.tuple #[.string p.put.1, .int .i64 p.put.2]) ∧ Upd [] w w' := by
  obtain ⟨ao, cap, rfl, -, -, -⟩ := id hl
  obtain ⟨c, i, l, d⟩ := p
  obtain ⟨n, hn⟩ : ∃ n, n = l.length := ⟨_, rfl⟩
  have HQ0 : Hid (Pk.put ⟨c, i, l, d⟩ = (if (!numberedB c i || (decide (0 < n) && !hasOpts c) || (!decide (d.size = 0) && hasOpts c)) = true then (⟨#[]⟩, 1) else if (putOpts l).2 ≠ 0 then (⟨#[]⟩, (putOpts l).2) else layB c i ((putOpts l).1 ++ d))) := by
    show _ = _
    rw [hn]; rfl
  rw [HQ0.out]
  simp only [Pk.val] at hl hls hd ⊢
  rw [← hn]
  have HN := Lib.hid hn
  have HL := Lib.hid hl
  have HLS := Lib.hid hls
  clear hn hl hls HQ0
  have U0 : Upd [] w (w.alloc (Obj.cells #[Value.int IntKind.i64 c, Value.int IntKind.i64 i, .slice ao n cap, .string d] 24)) := (Upd.refl [] w).alloc _
  have A0 := Blk.new w 24 #[Value.int IntKind.i64 c, Value.int IntKind.i64 i, .slice ao n cap, .string d]
  obtain ⟨A, hA⟩ : ∃ A, A = Obj.cells #[Value.int IntKind.i64 c, Value.int IntKind.i64 i, .slice ao n cap, .string d] 24 := ⟨_, rfl⟩
  rw [← hA] at A0 U0
  have HA := Lib.hid hA
  clear hA
  have HC : Hid (∀ W, Upd [] (w.alloc A) W → W.cell? ⟨w.heap.size, 0, none⟩ = some (.int .i64 c) ∧ W.cell? ⟨w.heap.size, 1, none⟩ = some (.int .i64 i) ∧ W.cell? ⟨w.heap.size, 2, none⟩ = some (.slice ao n cap) ∧ W.cell? ⟨w.heap.size, 3, none⟩ = some (.string d)) := fun W hu =>
    ⟨(A0.upd hu (by simp)).cell 0, (A0.upd hu (by simp)).cell 1, (A0.upd hu (by simp)).cell 2, (A0.upd hu (by simp)).cell 3⟩
  have HU0 := Lib.hid U0
  clear A0 U0
  obtain ⟨b, e0, hp⟩ : ∃ b e, putOpts l = (b, e) := ⟨_, _, rfl⟩
  have hbs := putOpts_size l
  rw [hp] at hbs ⊢
  simp only at hbs ⊢
  have HP := Lib.hid hp
  clear hp
  obtain ⟨bd, hbd⟩ : ∃ bd, bd = b ++ d := ⟨_, rfl⟩
  have hadd := fun W => run_string_add_sum (P := Tryz.prog) W b d (by omega)
  have HBD : Hid (bd.size ≤ maxLen) := by show _ ≤ _; rw [hbd, ByteArray.size_append]; simp only [maxLen]; omega
  rw [← hbd] at hadd ⊢
  clear hbd
  by_cases t1 : numberedB c i = true
  rotate_left
  · have t1 : numberedB c i = false := by simpa using t1
    rw [if_pos (by rw [t1]; simp)]
    have T1 := Lib.hid t1
    clear t1
    go_enter Tryz.func7, Tryz.ntmps7
    go_wp2_with fail
    rw [← HA.out]
    refine (numbered_any _ _ _ _ _).mono ?_
    rintro e w1 ⟨rfl, hu⟩
    rw [T1.out]
    go_wp2_with fail
    go_ret2
    exact ⟨rfl, HU0.out.trans hu⟩
  simp only [t1, Bool.not_true, Bool.false_or]
  have T1 := Lib.hid t1
  clear t1
  by_cases t3 : hasOpts c = true
  · simp only [t3, Bool.not_true, Bool.and_false, Bool.false_or, Bool.and_true]
    have T3 := Lib.hid t3
    clear t3
    by_cases t4 : d.size = 0
    · rw [if_neg (by simp [t4])]
      have q4 := str_empty_t t4
      have T4 := Lib.hid t4
      clear t4
      by_cases t5 : e0 = 0
      · subst t5
        rw [if_neg (by simp)]
        by_cases t2 : 0 < n
        all_goals
          go_enter Tryz.func7, Tryz.ntmps7
          go_wp2_with fail
          rw [← HA.out]
          refine (numbered_any _ _ _ _ _).mono ?_
          rintro e w1 ⟨rfl, hu⟩
          rw [T1.out]
          have hc := HC.out w1 hu
          have HU1 := Lib.hid hu
          clear hu
          go_wp2_with (go_at_call 31; refine (hasOptions_any _ _).mono ?_; rintro e w' ⟨rfl, rfl⟩; rw [T3.out])
          refine (putOptions_any l _ _ ((by rw [HN.out]; exact HL.out : TgsAt w (.slice ao n cap) l).upd (HU0.out.trans HU1.out)) HLS.out).mono ?_
          rintro e w2 ⟨rfl, hu2⟩
          rw [HP.out]
          have hc2 := HC.out w2 (HU1.out.trans hu2)
          have HU2 := Lib.hid (HU0.out.trans (HU1.out.trans hu2))
          clear hu2 hc HU1
          go_wp2_with fail
          refine (lay_any c i _ _ bd HBD.out _).mono ?_
          rintro e w3 ⟨rfl, hu3⟩
          go_wp2_with fail
          go_ret2
          exact ⟨rfl, HU2.out.trans hu3⟩
      · rw [if_pos t5]
        have q5 : (e0 != 0) = true := by simpa using t5
        clear t5
        by_cases t2 : 0 < n
        all_goals
          go_enter Tryz.func7, Tryz.ntmps7
          go_wp2_with fail
          rw [← HA.out]
          refine (numbered_any _ _ _ _ _).mono ?_
          rintro e w1 ⟨rfl, hu⟩
          rw [T1.out]
          have hc := HC.out w1 hu
          have HU1 := Lib.hid hu
          clear hu
          go_wp2_with (go_at_call 31; refine (hasOptions_any _ _).mono ?_; rintro e w' ⟨rfl, rfl⟩; rw [T3.out])
          refine (putOptions_any l _ _ ((by rw [HN.out]; exact HL.out : TgsAt w (.slice ao n cap) l).upd (HU0.out.trans HU1.out)) HLS.out).mono ?_
          rintro e w2 ⟨rfl, hu2⟩
          rw [HP.out]
          have HU2 := Lib.hid (HU0.out.trans (HU1.out.trans hu2))
          clear hu2 hc HU1
          go_wp2_with fail
          go_ret2
          exact ⟨rfl, HU2.out⟩
    · rw [if_pos (by simp [t4])]
      have q4 := str_empty_f t4
      clear t4
      by_cases t2 : 0 < n
      all_goals
        go_enter Tryz.func7, Tryz.ntmps7
        go_wp2_with fail
        rw [← HA.out]
        refine (numbered_any _ _ _ _ _).mono ?_
        rintro e w1 ⟨rfl, hu⟩
        rw [T1.out]
        have hc := HC.out w1 hu
        have HU1 := Lib.hid hu
        clear hu
        go_wp2_with (go_at_call 31; refine (hasOptions_any _ _).mono ?_; rintro e w' ⟨rfl, rfl⟩; rw [T3.out])
        go_ret2
        exact ⟨rfl, HU0.out.trans HU1.out⟩
  · have t3 : hasOpts c = false := by simpa using t3
    simp only [t3, Bool.not_false, Bool.and_true, Bool.and_false, Bool.or_false]
    have T3 := Lib.hid t3
    clear t3
    by_cases t2 : 0 < n
    · rw [if_pos (by simpa using t2)]
      go_enter Tryz.func7, Tryz.ntmps7
      go_wp2_with fail
      rw [← HA.out]
      refine (numbered_any _ _ _ _ _).mono ?_
      rintro e w1 ⟨rfl, hu⟩
      rw [T1.out]
      have hc := HC.out w1 hu
      have HU1 := Lib.hid hu
      clear hu
      go_wp2_with (go_at_call 31; refine (hasOptions_any _ _).mono ?_; rintro e w' ⟨rfl, rfl⟩; rw [T3.out])
      go_ret2
      exact ⟨rfl, HU0.out.trans HU1.out⟩
    · rw [if_neg (by simpa using t2)]
      have t2' : ¬ (0 : Int) < n := by omega
      have q5 : Hid (∀ W, Upd [] (w.alloc A) W → True) := fun _ _ => trivial
      by_cases t5 : e0 = 0
      · subst t5
        rw [if_neg (by simp)]
        by_cases t4 : d.size = 0
        focus
          have q4 := str_empty_t t4
          clear t4
        rotate_left
        focus
          have q4 := str_empty_f t4
          clear t4
        all_goals
          go_enter Tryz.func7, Tryz.ntmps7
          go_wp2_with fail
          rw [← HA.out]
          refine (numbered_any _ _ _ _ _).mono ?_
          rintro e w1 ⟨rfl, hu⟩
          rw [T1.out]
          have hc := HC.out w1 hu
          have HU1 := Lib.hid hu
          clear hu
          go_wp2_with (go_at_call 31; refine (hasOptions_any _ _).mono ?_; rintro e w' ⟨rfl, rfl⟩; rw [T3.out])
          refine (putOptions_any l _ _ ((by rw [HN.out]; exact HL.out : TgsAt w (.slice ao n cap) l).upd (HU0.out.trans HU1.out)) HLS.out).mono ?_
          rintro e w2 ⟨rfl, hu2⟩
          rw [HP.out]
          have hc2 := HC.out w2 (HU1.out.trans hu2)
          have HU2 := Lib.hid (HU0.out.trans (HU1.out.trans hu2))
          clear hu2 hc HU1
          go_wp2_with fail
          refine (lay_any c i _ _ bd HBD.out _).mono ?_
          rintro e w3 ⟨rfl, hu3⟩
          go_wp2_with fail
          go_ret2
          exact ⟨rfl, HU2.out.trans hu3⟩
      · rw [if_pos t5]
        have q5 : (e0 != 0) = true := by simpa using t5
        clear t5
        by_cases t4 : d.size = 0
        focus
          have q4 := str_empty_t t4
          clear t4
        rotate_left
        focus
          have q4 := str_empty_f t4
          clear t4
        all_goals
          go_enter Tryz.func7, Tryz.ntmps7
          go_wp2_with fail
          rw [← HA.out]
          refine (numbered_any _ _ _ _ _).mono ?_
          rintro e w1 ⟨rfl, hu⟩
          rw [T1.out]
          have hc := HC.out w1 hu
          have HU1 := Lib.hid hu
          clear hu
          go_wp2_with (go_at_call 31; refine (hasOptions_any _ _).mono ?_; rintro e w' ⟨rfl, rfl⟩; rw [T3.out])
          refine (putOptions_any l _ _ ((by rw [HN.out]; exact HL.out : TgsAt w (.slice ao n cap) l).upd (HU0.out.trans HU1.out)) HLS.out).mono ?_
          rintro e w2 ⟨rfl, hu2⟩
          rw [HP.out]
          have HU2 := Lib.hid (HU0.out.trans (HU1.out.trans hu2))
          clear hu2 hc HU1
          go_wp2_with fail
          go_ret2
          exact ⟨rfl, HU2.out⟩
end Go.Proofs.YthkfgjmifoeljaaGreat
