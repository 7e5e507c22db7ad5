/- The walk of msg.Get, msg.IsCtl. -/
import Derived.Test.YtcplhlokbnaabaaMsgG
import Derived.Test.YtcplhlokbnaabaaAvpBP
namespace Go.Proofs.Ytcplhlokbnaabaa
open Go.RowKit
set_option linter.unusedSimpArgs false
set_option linter.unusedVariables false
set_option maxRecDepth 20000

structure Cm where
  t : Int
  s : Int
  ns : Int
  nr : Int
  l : List Av
def Cm.val (c : Cm) (v : Value) : Value := .agg #[.int .i64 c.t, .int .i64 c.s, .int .i64 c.ns, .int .i64 c.nr, v]
def Cm.zero : Cm := ⟨0, 0, 0, 0, []⟩
def getM (b secret : ByteArray) : Cm × Int :=
  if b.size < 12 then (.zero, 5) else if byte b 0 ≠ 200 ∨ byte b 1 ≠ 2 then (.zero, 4) else
  if (b.size : Int) < num b 2 2 then (.zero, 5) else if num b 2 2 < 12 then (.zero, 4) else
  if (getA (b.extract 12 (num b 2 2).toNat) secret).2 ≠ 0 then (.zero, (getA (b.extract 12 (num b 2 2).toNat) secret).2)
  else (⟨num b 4 2, num b 6 2, num b 8 2, num b 10 2, (getA (b.extract 12 (num b 2 2).toNat) secret).1⟩, 0)

structure GotM (w : World) (r : Cm × Int) (e : Ending) (w' : World) : Prop where
  out : ∃ v own, e = .returned (.tuple #[r.1.val v, .int .i64 r.2]) ∧ Own w' 27 5 v r.1.l.length (avCells r.1.l) own ∧ (∀ k ∈ own, w.heap.size ≤ k) ∧ Upd [] w w'
set_option maxHeartbeats 4000000 in
theorem msgGet_any (b secret : ByteArray) (hb : b.size ≤ 400000) (hs : secret.size ≤ 400000) (w : World) :
    Calls Try.prog 15 #[.string b, .string secret] w (GotM w (getM b secret)) := by
  obtain ⟨R, hR⟩ : ∃ R, getM b secret = R := ⟨_, rfl⟩
  rw [hR]
  have HR := Lib.hid hR
  clear hR
  simp only [getM] at HR
  by_cases t1 : b.size < 12
  · have hr := HR.out
    rw [if_pos t1] at hr
    subst hr
    clear HR
    have t1' : (b.size : Int) < 12 := by omega
    go_enter Try.func15, Try.ntmps15
    go_wp2_with fail
    exact bodyPost_ret (v := .tuple #[.agg #[.int .i64 0, .int .i64 0, .int .i64 0, .int .i64 0, .slice none 0 0], .int .i64 5]) (by simp [results, Try.results15, go_sem]) rfl ⟨⟨.slice none 0 0, [], rfl, Own.nil _ _ _, by simp, (by repeat (first | refine Upd.setCell _ ?_ (.inr (by simp)) | refine Upd.alloc _ ?_ | exact Upd.refl _ _))⟩⟩
  have HR1 : Hid (_ = R) := (if_neg t1).symm.trans HR.out
  have t1' : ¬ (b.size : Int) < 12 := by omega
  clear HR
  have hbyte : ∀ i (h : i < b.size), ((b[i].toNat : Int)) = byte b i := byte_get b
  have q0 := hbyte 0 (by omega)
  have q1 := hbyte 1 (by omega)
  have hb0 := byte_bd b 0
  have hb1 := byte_bd b 1
  have hn := num_bd b 2 2
  have HN2 := Lib.hid (msgNum_any b 2 (by simp only [maxLen]; omega) (by omega))
  have HN4 := Lib.hid (msgNum_any b 4 (by simp only [maxLen]; omega) (by omega))
  have HN6 := Lib.hid (msgNum_any b 6 (by simp only [maxLen]; omega) (by omega))
  have HN8 := Lib.hid (msgNum_any b 8 (by simp only [maxLen]; omega) (by omega))
  have HN10 := Lib.hid (msgNum_any b 10 (by simp only [maxLen]; omega) (by omega))
  obtain ⟨n, hnn⟩ : ∃ n : Nat, num b 2 2 = n := Int.eq_ofNat_of_zero_le hn.1
  rw [hnn] at HR1 HN2 hn
  rw [Int.toNat_natCast] at HR1
  generalize byte b 0 = y0 at *
  generalize byte b 1 = y1 at *
  clear hbyte hnn
  by_cases t2 : y0 ≠ 200 ∨ y1 ≠ 2
  · have hr := HR1.out
    rw [if_pos t2] at hr
    subst hr
    clear HR1
    by_cases t3 : y0 = 200
    · have t4 : y1 ≠ 2 := by rcases t2 with h | h; exact absurd t3 h; exact h
      have r0 : (y0 != 200) = false := by simpa using t3
      have r1 : (y1 != 2) = true := by simpa using t4
      clear t2 t3 t4
      go_enter Try.func15, Try.ntmps15
      go_wp2_with fail
      exact bodyPost_ret (v := .tuple #[.agg #[.int .i64 0, .int .i64 0, .int .i64 0, .int .i64 0, .slice none 0 0], .int .i64 4]) (by simp [results, Try.results15, go_sem]) rfl ⟨⟨.slice none 0 0, [], rfl, Own.nil _ _ _, by simp, (by repeat (first | refine Upd.setCell _ ?_ (.inr (by simp)) | refine Upd.alloc _ ?_ | exact Upd.refl _ _))⟩⟩
    · have r0 : (y0 != 200) = true := by simpa using t3
      clear t2 t3
      go_enter Try.func15, Try.ntmps15
      go_wp2_with fail
      exact bodyPost_ret (v := .tuple #[.agg #[.int .i64 0, .int .i64 0, .int .i64 0, .int .i64 0, .slice none 0 0], .int .i64 4]) (by simp [results, Try.results15, go_sem]) rfl ⟨⟨.slice none 0 0, [], rfl, Own.nil _ _ _, by simp, (by repeat (first | refine Upd.setCell _ ?_ (.inr (by simp)) | refine Upd.alloc _ ?_ | exact Upd.refl _ _))⟩⟩
  have HR2 : Hid (_ = R) := (if_neg t2).symm.trans HR1.out
  have r0 : (y0 != 200) = false := by simp; exact Classical.byContradiction fun h => t2 (.inl h)
  have r1 : (y1 != 2) = false := by simp; exact Classical.byContradiction fun h => t2 (.inr h)
  clear HR1 t2
  by_cases t3 : (b.size : Int) < n
  · have hr := HR2.out
    rw [if_pos t3] at hr
    subst hr
    clear HR2
    go_enter Try.func15, Try.ntmps15
    go_wp2_with fail
    refine (HN2.out _).mono ?_
    rintro e w1 ⟨rfl, rfl⟩
    go_wp2_with fail
    exact bodyPost_ret (v := .tuple #[.agg #[.int .i64 0, .int .i64 0, .int .i64 0, .int .i64 0, .slice none 0 0], .int .i64 5]) (by simp [results, Try.results15, go_sem]) rfl ⟨⟨.slice none 0 0, [], rfl, Own.nil _ _ _, by simp, (by repeat (first | refine Upd.setCell _ ?_ (.inr (by simp)) | refine Upd.alloc _ ?_ | exact Upd.refl _ _))⟩⟩
  have HR3 : Hid (_ = R) := (if_neg t3).symm.trans HR2.out
  clear HR2
  by_cases t4 : (n : Int) < 12
  · have hr := HR3.out
    rw [if_pos t4] at hr
    subst hr
    clear HR3
    go_enter Try.func15, Try.ntmps15
    go_wp2_with fail
    refine (HN2.out _).mono ?_
    rintro e w1 ⟨rfl, rfl⟩
    go_wp2_with fail
    refine (HN2.out _).mono ?_
    rintro e w1 ⟨rfl, rfl⟩
    go_wp2_with fail
    exact bodyPost_ret (v := .tuple #[.agg #[.int .i64 0, .int .i64 0, .int .i64 0, .int .i64 0, .slice none 0 0], .int .i64 4]) (by simp [results, Try.results15, go_sem]) rfl ⟨⟨.slice none 0 0, [], rfl, Own.nil _ _ _, by simp, (by repeat (first | refine Upd.setCell _ ?_ (.inr (by simp)) | refine Upd.alloc _ ?_ | exact Upd.refl _ _))⟩⟩
  have HR4 : Hid (_ = R) := (if_neg t4).symm.trans HR3.out
  clear HR3
  obtain ⟨x, hx⟩ : ∃ x, b.extract 12 n = x := ⟨_, rfl⟩
  have hxz : x.size ≤ 400000 := by rw [← hx, ByteArray.size_extract]; omega
  rw [hx] at HR4
  have HG := Lib.hid (fun W => avpGet_any x secret W hxz hs)
  obtain ⟨l, e, hle⟩ : ∃ l e, getA x secret = (l, e) := ⟨_, _, rfl⟩
  rw [hle] at HR4 HG
  dsimp only at HR4 HG
  clear hle hxz
  by_cases t5 : e ≠ 0
  · have hr := HR4.out
    rw [if_pos t5] at hr
    subst hr
    clear HR4
    have t5' : (e != 0) = true := by simpa using t5
    go_enter Try.func15, Try.ntmps15
    go_wp2_with fail
    refine (HN2.out _).mono ?_
    rintro e w1 ⟨rfl, rfl⟩
    go_wp2_with fail
    refine (HN2.out _).mono ?_
    rintro e w1 ⟨rfl, rfl⟩
    go_wp2_with fail
    refine (HN2.out _).mono ?_
    rintro e w1 ⟨rfl, rfl⟩
    go_wp2_with fail
    have A0 := Blk.new w 33 #[.int .i64 0, .int .i64 0, .int .i64 0, .int .i64 0, .slice none 0 0]
    have U0 := Lib.hid ((Upd.refl [] w).alloc (Obj.cells #[.int .i64 0, .int .i64 0, .int .i64 0, .int .i64 0, .slice none 0 0] 33))
    refine (HG.out _).mono ?_
    rintro e w2 ⟨v, own, rfl, ho, hin, hu2⟩
    have HU2 := Lib.hid (U0.out.trans hu2)
    have B := A0.upd hu2 (by simp)
    have hlt := A0.lt
    have HIN : Hid (∀ k ∈ own, w.heap.size < k) := fun k hk => by have := hin k hk; simp at this; omega
    have HO := Lib.hid ho
    obtain ⟨ao, cap, rfl, -, -⟩ := ho.shape
    clear ho hin hu2 A0
    have c0 := B.cell 0
    have c1 := B.cell 1
    have c2 := B.cell 2
    have c3 := B.cell 3
    have c4 := B.cell 4
    have f0 := B.frozen 0
    have f1 := B.frozen 1
    have f2 := B.frozen 2
    have f3 := B.frozen 3
    have f4 := B.frozen 4
    simp only [List.size_toArray, List.length_cons, List.length_nil, List.getElem?_toArray, List.getElem?_cons_zero, List.getElem?_cons_succ] at c0 c1 c2 c3 c4
    clear B
    obtain ⟨ln, hln⟩ : ∃ ln, l.length = ln := ⟨_, rfl⟩
    have HLN := Lib.hid hln
    rw [hln] at HO ⊢
    clear hln
    go_wp2_with fail
    exact bodyPost_ret (v := .tuple #[.agg #[.int .i64 0, .int .i64 0, .int .i64 0, .int .i64 0, .slice none 0 0], .int .i64 e]) (by simp [results, Try.results15, go_sem, c0, c1, c2, c3, c4]) rfl ⟨⟨.slice none 0 0, [], rfl, Own.nil _ _ _, by simp, (by repeat (first | refine Upd.setCell _ ?_ (.inr (by simp)) | exact HU2.out))⟩⟩
  obtain rfl : e = 0 := Classical.not_not.1 t5
  have hr := HR4.out
  rw [if_neg (by simp)] at hr
  subst hr
  clear HR4 t5
  have hb4 := num_bd b 4 2
  generalize num b 4 2 = k4 at *
  generalize num b 6 2 = k6 at *
  generalize num b 8 2 = k8 at *
  generalize num b 10 2 = k10 at *
  go_enter Try.func15, Try.ntmps15
  go_wp2_with fail
  refine (HN2.out _).mono ?_
  rintro e w1 ⟨rfl, rfl⟩
  go_wp2_with fail
  refine (HN2.out _).mono ?_
  rintro e w1 ⟨rfl, rfl⟩
  go_wp2_with fail
  refine (HN2.out _).mono ?_
  rintro e w1 ⟨rfl, rfl⟩
  go_wp2_with fail
  have A0 := Blk.new w 33 #[.int .i64 0, .int .i64 0, .int .i64 0, .int .i64 0, .slice none 0 0]
  have U0 := Lib.hid ((Upd.refl [] w).alloc (Obj.cells #[.int .i64 0, .int .i64 0, .int .i64 0, .int .i64 0, .slice none 0 0] 33))
  refine (HG.out _).mono ?_
  rintro e w2 ⟨v, own, rfl, ho, hin, hu2⟩
  have HU2 := Lib.hid (U0.out.trans hu2)
  have B := A0.upd hu2 (by simp)
  have hlt := A0.lt
  have HIN : Hid (∀ k ∈ own, w.heap.size < k) := fun k hk => by have := hin k hk; simp at this; omega
  have HO := Lib.hid ho
  obtain ⟨ao, cap, rfl, -, -⟩ := ho.shape
  clear ho hin hu2 A0
  have c0 := B.cell 0
  have c1 := B.cell 1
  have c2 := B.cell 2
  have c3 := B.cell 3
  have c4 := B.cell 4
  have f0 := B.frozen 0
  have f1 := B.frozen 1
  have f2 := B.frozen 2
  have f3 := B.frozen 3
  have f4 := B.frozen 4
  simp only [List.size_toArray, List.length_cons, List.length_nil, List.getElem?_toArray, List.getElem?_cons_zero, List.getElem?_cons_succ] at c0 c1 c2 c3 c4
  clear B
  obtain ⟨ln, hln⟩ : ∃ ln, l.length = ln := ⟨_, rfl⟩
  have HLN := Lib.hid hln
  rw [hln] at HO ⊢
  clear hln
  go_wp2_with fail
  refine (HN4.out _).mono ?_
  rintro e w1 ⟨rfl, rfl⟩
  go_wp2_with fail
  refine (HN6.out _).mono ?_
  rintro e w1 ⟨rfl, rfl⟩
  go_wp2_with fail
  refine (HN8.out _).mono ?_
  rintro e w1 ⟨rfl, rfl⟩
  go_wp2_with fail
  refine (HN10.out _).mono ?_
  rintro e w1 ⟨rfl, rfl⟩
  go_wp2_with fail
  have hne : w.heap.size ∉ own := fun h => Nat.lt_irrefl _ (HIN.out _ h)
  exact bodyPost_ret (v := .tuple #[.agg #[.int .i64 k4, .int .i64 k6, .int .i64 k8, .int .i64 k10, .slice ao ln cap], .int .i64 0]) (by simp [results, Try.results15, go_sem, c0, c1, c2, c3, c4]) rfl ⟨⟨_, own, rfl, (by (try rw [HLN.out]); repeat (first | refine Own.setCell _ ?_ hne | exact HO.out)), fun k hk => Nat.le_of_lt (HIN.out k hk), (by repeat (first | refine Upd.setCell _ ?_ (.inr (by simp)) | exact HU2.out))⟩⟩

def isCtlB (b : ByteArray) : Bool := decide (b.size ≠ 0) && decide (128 ≤ byte b 0)
theorem and128 (x : Int) (h : 0 ≤ x ∧ x < 256) : (bits .and .u8 x 128 != 0) = decide (128 ≤ x) := by
  obtain ⟨m, rfl⟩ := Int.eq_ofNat_of_zero_le h.1
  have : ∀ m : Nat, m < 256 → (bits .and .u8 (m : Int) 128 != 0) = decide (128 ≤ (m : Int)) := by decide +kernel
  exact this m (by omega)
theorem isCtl_any (b : ByteArray) (hb : b.size ≤ maxLen) (w : World) :
    Calls Try.prog 17 #[.string b] w fun e w' => e = .returned (.bool (isCtlB b)) ∧ w = w' := by
  simp only [maxLen] at hb
  by_cases t : b.size = 0
  · have e0 := str_empty_t t
    have HQ : Hid (isCtlB b = false) := by show _ = _; simp [isCtlB, t]
    rw [HQ.out]
    clear t HQ
    go_enter Try.func17, Try.ntmps17
    go_wp2_with fail
    go_ret
    exact ⟨rfl, rfl⟩
  · have e0 := str_empty_f t
    have h0 : 0 < b.size := by omega
    have q0 := byte_get b 0 h0
    have HQ : Hid (isCtlB b = decide (128 ≤ byte b 0)) := by show _ = _; simp [isCtlB, t]
    rw [HQ.out]
    have qa := and128 (byte b 0) (byte_bd b 0)
    generalize byte b 0 = y at *
    clear t HQ
    go_enter Try.func17, Try.ntmps17
    go_wp2_with fail
    go_ret
    exact ⟨rfl, rfl⟩
end Go.Proofs.Ytcplhlokbnaabaa
