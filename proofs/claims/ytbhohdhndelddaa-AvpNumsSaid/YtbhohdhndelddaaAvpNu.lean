/- The walk of AvpNums. -/
import Derived.Test.YtbhohdhndelddaaAvpL
import Derived.Test.YtbhohdhndelddaaAvpB
import Derived.Test.YtbhohdhndelddaaLightA
import Derived.Test.YtbhohdhndelddaaAvsIn
import Derived.Test.YtbhohdhndelddaaFacts
namespace Go.Proofs.Ytbhohdhndelddaa
open Go.RowKit
set_option linter.unusedSimpArgs false
set_option linter.unusedVariables false
set_option maxRecDepth 100000

theorem wpList_append_run {P : Program} {w : World} {ops : Array Oper} {rest : List Oper} {o : Oper} {a : Act} {Q : Exit → Act → World → Prop} (hgd : o.guard = none) (s x : Operand) (t : TypeId) (ho : o.op = .call { callee := .builtin .append, args := #[s, x], argTypes := #[t, t] })
    (v u r : Value) (w' : World) (hs : a.eval s = v) (hx : a.eval x = u) (hrun : (Builtin.append_ #[t, t] o.type #[v, u]).run P w = .ok r w') (h : wpList P ops Q rest (a.put o.dst r) w') : wpList P ops Q (o :: rest) a w := by
  refine wpList_plain hgd fun K hK => ?_
  unfold Oper.wp
  rw [exec_append ho hs hx hrun, Oper.upon_value]
  exact hK _ _ h
theorem numAv_find (kind v : Int) (n : Nat) (m : List Av) : findAv kind (numAv kind v n :: m) = (be n v, true) := by
  rw [findAv, List.find?_cons]
  have : avIs kind (numAv kind v n) = true := by simp [avIs, numAv]
  rw [this]
  rfl
theorem numAv_number (kind v : Int) (n : Nat) (m : List Av) (hn : 1 ≤ n ∧ n ≤ 7) (hv : 0 ≤ v ∧ v < 2 ^ (8 * n)) : numberAv (numAv kind v n :: m) kind = (v, true) := by
  rw [numberAv, numAv_find]
  rw [if_neg (by simp [be_size]; omega)]
  rw [valueB, if_neg (by simp only [be_size]; omega), be_size, num_be n v (by rw [← pow256]; exact hv)]

set_option maxHeartbeats 4000000 in
theorem avpNums_any (kind v n : Int) (l : List Av) (u : Value) (w : World) (hl : AvsAt w u l) (hs : ∀ t ∈ l, t.val.size ≤ 140737488355328) :
    Calls Try.prog 6 #[.int .i64 kind, .int .i64 v, .int .i64 n, u] w fun e w' => e = .returned (.bool true) ∧ Upd [] w w' := by
  obtain ⟨ao, cap, rfl, h1, h2, h3⟩ := id hl
  have HLi := Lib.hid (lightA_any l _ w hl hs)
  have HL := Lib.hid hl
  have HS := Lib.hid hs
  have h50 := @LightA_spec l
  obtain ⟨len, hlen⟩ : ∃ len, l.length = len := ⟨_, rfl⟩
  rw [hlen] at HLi h1 h50
  rw [hlen]
  have HLN := Lib.hid hlen
  simp only [maxLen] at h2
  clear h3 hl hs hlen
  by_cases t1 : n < 1
  · go_enter Try.func6, Try.ntmps6
    go_wp2_with fail
    refine (alive18_any _).mono ?_
    rintro e w2 ⟨rfl, hu2⟩
    go_wp2_with fail
    go_ret
    exact ⟨rfl, hu2⟩
  by_cases t2 : 7 < n
  · go_enter Try.func6, Try.ntmps6
    go_wp2_with fail
    refine (alive18_any _).mono ?_
    rintro e w2 ⟨rfl, hu2⟩
    go_wp2_with fail
    go_ret
    exact ⟨rfl, hu2⟩
  by_cases t3 : v < 0
  · go_enter Try.func6, Try.ntmps6
    go_wp2_with fail
    refine (alive18_any _).mono ?_
    rintro e w2 ⟨rfl, hu2⟩
    go_wp2_with fail
    go_ret
    exact ⟨rfl, hu2⟩
  obtain ⟨N, rfl⟩ := Int.eq_ofNat_of_zero_le (show 0 ≤ n by omega)
  have hN : 1 ≤ N ∧ N ≤ 7 := by omega
  have hP : (2 : Int) ^ (8 * N) ≤ 72057594037927936 := by
    have h4 : N = 1 ∨ N = 2 ∨ N = 3 ∨ N = 4 ∨ N = 5 ∨ N = 6 ∨ N = 7 := by omega
    rcases h4 with h | h | h | h | h | h | h <;> rw [h] <;> decide
  have hP0 : (0 : Int) < 2 ^ (8 * N) := Int.pow_pos (by decide)
  have HNV := fun h => Lib.hid (numAv_number kind v N l hN ⟨by omega, h⟩)
  obtain ⟨P, hPP⟩ : ∃ P : Int, 2 ^ (8 * N) = P := ⟨_, rfl⟩
  rw [hPP] at hP hP0 HNV
  by_cases t4 : P ≤ v
  · go_enter Try.func6, Try.ntmps6
    go_wp2_with fail
    refine (alive18_any _).mono ?_
    rintro e w2 ⟨rfl, hu2⟩
    go_wp2_with fail
    go_ret
    exact ⟨rfl, hu2⟩
  replace HNV := HNV (by omega)
  cases hli : LightA l
  · rw [hli] at HLi
    go_enter Try.func6, Try.ntmps6
    go_wp2_with fail
    refine HLi.out.mono ?_
    rintro e w1 ⟨rfl, hu1⟩
    go_wp2_with fail
    refine (alive18_any _).mono ?_
    rintro e w2 ⟨rfl, hu2⟩
    go_wp2_with fail
    go_ret
    exact ⟨rfl, hu1.trans hu2⟩
  rw [hli] at HLi
  replace h50 := h50 hli
  clear hli
  obtain ⟨i0, hi, hz0, hz1, hz2⟩ := info_parts info_av
  have HNU := fun W => num_ok kind v N (by omega) W
  have hbz := be_size N v
  obtain ⟨x, hx⟩ : ∃ x, be N v = x := ⟨_, rfl⟩
  have ha : numAv kind v N = ⟨true, false, 0, kind, x⟩ := by rw [numAv, hx]
  have HFI : Hid (findAv kind [numAv kind v N] = (x, true)) := by show _ = _; rw [numAv_find, hx]
  rw [ha] at HNU HNV HFI
  rw [hx] at hbz
  simp only [Av.agg] at HNU
  replace HNU := Lib.hid HNU
  clear hx ha
  go_enter Try.func6, Try.ntmps6
  go_wp2_with fail
  refine HLi.out.mono ?_
  rintro e w1 ⟨rfl, hu1⟩
  go_wp2_with fail
  refine (HNU.out _).mono ?_
  rintro e w2 ⟨rfl, hu2⟩
  have HU2 := Lib.hid (hu1.trans hu2)
  clear hu1 hu2
  obtain ⟨w3, hw3⟩ : ∃ w3, w2.alloc (Obj.cells #[.bool true, .bool false, .int .i64 0, .int .i64 kind, .string x] 33) = w3 := ⟨_, rfl⟩
  have B2 : Blk w3 w2.heap.size 33 #[.bool true, .bool false, .int .i64 0, .int .i64 kind, .string x] := by rw [← hw3]; exact Blk.new _ _ _
  have U3 : Upd [] w w3 := by rw [← hw3]; exact HU2.out.alloc _
  have hz3 : w3.heap.size = w2.heap.size + 1 := by rw [← hw3]; simp
  have HO : Own (w3.alloc (Obj.cells #[.bool true, .bool false, .int .i64 0, .int .i64 kind, .string x] 33)) 33 5 (.slice (some ⟨w3.heap.size, 0, none⟩) 1 1) 1 (avCells [⟨true, false, 0, kind, x⟩]) [w3.heap.size] :=
    ⟨rfl, .inr ⟨w3.heap.size, 0, 1, _, rfl, rfl, Blk.new _ _ _, Nat.le_refl _, by simp [maxLen], by simp, rfl⟩⟩
  have U4 : Upd [] w (w3.alloc (Obj.cells #[.bool true, .bool false, .int .i64 0, .int .i64 kind, .string x] 33)) := U3.alloc _
  have B4 := B2.alloc (Obj.cells #[.bool true, .bool false, .int .i64 0, .int .i64 kind, .string x] 33)
  obtain ⟨ao', cap', w5, own', hrun, ho5, hin5, hu5⟩ := run_append_Rd (P := Try.prog) (w3.alloc (Obj.cells #[.bool true, .bool false, .int .i64 0, .int .i64 kind, .string x] 33)) 22 22 33 i0 _ 5 40 Try.underlying22 hi hz0 hz1 hz2 rfl (by decide) _ 1 _ _ HO (.slice ao len cap) len (avCells l) (by have h := (HL.out.upd U4).rd; rw [HLN.out] at h; exact h) (by simp only [maxLen]; omega) (by omega)
  rw [hz3] at hrun hin5 hu5
  have B5 := Lib.hid (B4.upd hu5 (by simp))
  have U5 := Lib.hid (U4.trans' hu5 (fun x hx => .inr (by simp at hx; have := U3.size; omega)))
  have H5 : Hid (AvsAt w5 (.slice ao' (1 + len) cap') (⟨true, false, 0, kind, x⟩ :: l)) := by
    refine AvsAt.of_own (e := 33) (own := own') ?_
    rw [List.length_cons, HLN.out, Nat.add_comm len 1]
    exact ho5
  have HNB := Lib.hid (number_any (⟨true, false, 0, kind, x⟩ :: l) (.slice ao' (1 + len) cap') kind w5 H5.out (by
    intro t ht
    rcases List.mem_cons.1 ht with h | h
    · subst h; simp only [maxLen]; omega
    · have := HS.out t h; simp only [maxLen]; omega))
  rw [HNV.out] at HNB
  have c0 := B2.cell 0
  have c1 := B2.cell 1
  have c2 := B2.cell 2
  have c3 := B2.cell 3
  have c4 := B2.cell 4
  simp only [List.size_toArray, List.length_cons, List.length_nil, List.getElem?_toArray, List.getElem?_cons_zero, List.getElem?_cons_succ] at c0 c1 c2 c3 c4
  clear HO ho5 hin5 hu5 B4 U4
  have HRUN := Lib.hid hrun
  clear hrun
  go_wp2_with (at_builtin; refine wpList_append_run rfl (.tmp 43) (.tmp 44) 22 rfl _ _ _ _ (by simp [Act.eval]) (by simp [Act.eval]) HRUN.out ?_)
  refine HNB.out.mono ?_
  rintro e w6 ⟨rfl, hu6⟩
  have U6 := Lib.hid (U5.out.trans hu6)
  have B6 := B5.out.upd hu6 (by simp)
  have k0 := B6.cell 0
  have k1 := B6.cell 1
  have k2 := B6.cell 2
  have k3 := B6.cell 3
  have k4 := B6.cell 4
  simp only [List.size_toArray, List.length_cons, List.length_nil, List.getElem?_toArray, List.getElem?_cons_zero, List.getElem?_cons_succ] at k0 k1 k2 k3 k4
  have HB6 := Lib.hid B6
  clear hu6 c0 c1 c2 c3 c4 B6 B2 U3 HRUN B5
  go_wp2_with fail
  have hFA := avFind_any [⟨true, false, 0, kind, x⟩] (.slice (some ⟨w6.heap.size, 0, none⟩) 1 1) kind _ (AvsAt.of_blk (l := [⟨true, false, 0, kind, x⟩]) (Blk.new w6 33 #[.bool true, .bool false, .int .i64 0, .int .i64 kind, .string x]) (by simp [maxLen]))
  rw [HFI.out] at hFA
  refine hFA.mono ?_
  rintro e w7 ⟨rfl, hu7⟩
  have U7 := Lib.hid ((U6.out.alloc _).trans hu7)
  have HB7 := Lib.hid ((HB6.out.alloc _).upd hu7 (by simp))
  clear hu7 hFA k0 k1 k2 k3 k4
  go_wp2_with fail
  refine (alive18_any _).mono ?_
  rintro e w8 ⟨rfl, hu8⟩
  have B8 := HB7.out.upd hu8 (by simp)
  have k0 := B8.cell 0
  have k1 := B8.cell 1
  have k2 := B8.cell 2
  have k3 := B8.cell 3
  have k4 := B8.cell 4
  simp only [List.size_toArray, List.length_cons, List.length_nil, List.getElem?_toArray, List.getElem?_cons_zero, List.getElem?_cons_succ] at k0 k1 k2 k3 k4
  have U8 := Lib.hid (U7.out.trans hu8)
  clear hu8 B8
  go_wp2_with fail
  go_ret
  exact ⟨rfl, U8.out⟩

theorem avpNums_walk {H : Type} {enc : TypeId × Value → H} {v3 : Value} {d0 d1 d2 d3 : DataW H} {p3 : List MemPlace} {W : World} {base : Nat}
    (kind : Int) (_ : (Lit.int .i64 kind).wf = true) (v : Int) (_ : (Lit.int .i64 v).wf = true) (n : Int) (_ : (Lit.int .i64 n).wf = true)
    (h3 : DataW.Trod enc Try.prog W 0 (fun _ => true) true 22 v3 d3 p3) (o3 : Value.okWide Try.prog W .any base 22 v3)
    (sz : (DataW.weightsEach Try.prog [3, 3, 3, 22] [d0, d1, d2, d3]).all (· ≤ reachBytes) = true) :
    Calls Try.prog 6 #[.int .i64 kind, .int .i64 v, .int .i64 n, v3] W fun e w' => e = .returned (.bool true) ∧ Below W.heap.size W w' := by
  obtain ⟨l, hl, hls⟩ := avs_in h3 o3 (wt_each sz (j := 3) rfl rfl)
  exact (avpNums_any kind v n l v3 W hl hls).mono fun e W' ⟨he, hu⟩ => ⟨he, hu.below⟩
end Go.Proofs.Ytbhohdhndelddaa
