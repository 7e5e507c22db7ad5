/- The walk of msg.Get, msg.IsCtl. The walk of msg.Put. What msg.Put has written msg.Get reads (plain law). -/
import Derived.Test.YtolfjfkkbhbbbaaGreatQMsgF
import Derived.Test.YtolfjfkkbhbbbaaGreatQAvpBP
namespace Go.Proofs.YtolfjfkkbhbbbaaGreat
open Go.RowKit
set_option linter.unusedSimpArgs false
set_option linter.unusedVariables false
set_option maxRecDepth 20000

structure Cm where
  t : Int
  s : Int
  ns : Int
  nr : Int
  l : List Av
def Cm.val (c : Cm) (v : Value) : Value := .agg #[.int .i64 c.t, .int .i64 c.s, .int .i64 c.ns, .int .i64 c.nr, v]
def Cm.zero : Cm := ⟨0, 0, 0, 0, []⟩
def getM (b secret : ByteArray) : Cm × Int :=
  if b.size < 12 then (.zero, 5) else if byte b 0 ≠ 200 ∨ byte b 1 ≠ 2 then (.zero, 4) else
  if (b.size : Int) < num b 2 2 then (.zero, 5) else if num b 2 2 < 12 then (.zero, 4) else
  if (getA (b.extract 12 (num b 2 2).toNat) secret).2 ≠ 0 then (.zero, (getA (b.extract 12 (num b 2 2).toNat) secret).2)
  else (⟨num b 4 2, num b 6 2, num b 8 2, num b 10 2, (getA (b.extract 12 (num b 2 2).toNat) secret).1⟩, 0)

structure GotM (w : World) (r : Cm × Int) (e : Ending) (w' : World) : Prop where
  out : ∃ v own, e = .returned (.tuple #[r.1.val v, .int .i64 r.2]) ∧ Own w' 51 5 v r.1.l.length (avCells r.1.l) own ∧ (∀ k ∈ own, w.heap.size ≤ k) ∧ Upd [] w w'
set_option maxHeartbeats 4000000 in
theorem msgGet_any (b secret : ByteArray) (hb : b.size ≤ 400000) (hs : secret.size ≤ 400000) (w : World) :
    Calls Tryz.prog 25 #[.string b, .string secret] w (GotM w (getM b secret)) := by
  obtain ⟨R, hR⟩ : ∃ R, getM b secret = R := ⟨_, rfl⟩
  rw [hR]
  have HR := Lib.hid hR
  clear hR
  simp only [getM] at HR
  by_cases t1 : b.size < 12
  · have hr := HR.out
    rw [if_pos t1] at hr
    subst hr
    clear HR
    have t1' : (b.size : Int) < 12 := by omega
    go_enter Tryz.func25, Tryz.ntmps25
    go_wp2_with fail
    exact bodyPost_ret (v := .tuple #[.agg #[.int .i64 0, .int .i64 0, .int .i64 0, .int .i64 0, .slice none 0 0], .int .i64 5]) (by simp [results, Tryz.results25, go_sem]) rfl ⟨⟨.slice none 0 0, [], rfl, Own.nil _ _ _, by simp, (by repeat (first | refine Upd.setCell _ ?_ (.inr (by simp)) | refine Upd.alloc _ ?_ | exact Upd.refl _ _))⟩⟩
  have HR1 : Hid (_ = R) := (if_neg t1).symm.trans HR.out
  have t1' : ¬ (b.size : Int) < 12 := by omega
  clear HR
  have hbyte : ∀ i (h : i < b.size), ((b[i].toNat : Int)) = byte b i := byte_get b
  have q0 := hbyte 0 (by omega)
  have q1 := hbyte 1 (by omega)
  have hb0 := byte_bd b 0
  have hb1 := byte_bd b 1
  have hn := num_bd b 2 2
  have HN2 := Lib.hid (msgNum_any b 2 (by simp only [maxLen]; omega) (by omega))
  have HN4 := Lib.hid (msgNum_any b 4 (by simp only [maxLen]; omega) (by omega))
  have HN6 := Lib.hid (msgNum_any b 6 (by simp only [maxLen]; omega) (by omega))
  have HN8 := Lib.hid (msgNum_any b 8 (by simp only [maxLen]; omega) (by omega))
  have HN10 := Lib.hid (msgNum_any b 10 (by simp only [maxLen]; omega) (by omega))
  obtain ⟨n, hnn⟩ : ∃ n : Nat, num b 2 2 = n := Int.eq_ofNat_of_zero_le hn.1
  rw [hnn] at HR1 HN2 hn
  rw [Int.toNat_natCast] at HR1
  generalize byte b 0 = y0 at *
  generalize byte b 1 = y1 at *
  clear hbyte hnn
  by_cases t2 : y0 ≠ 200 ∨ y1 ≠ 2
  · have hr := HR1.out
    rw [if_pos t2] at hr
    subst hr
    clear HR1
    by_cases t3 : y0 = 200
    · have t4 : y1 ≠ 2 := by rcases t2 with h | h; exact absurd t3 h; exact h
      have r0 : (y0 != 200) = false := by simpa using t3
      have r1 : (y1 != 2) = true := by simpa using t4
      clear t2 t3 t4
      go_enter Tryz.func25, Tryz.ntmps25
      go_wp2_with fail
      exact bodyPost_ret (v := .tuple #[.agg #[.int .i64 0, .int .i64 0, .int .i64 0, .int .i64 0, .slice none 0 0], .int .i64 4]) (by simp [results, Tryz.results25, go_sem]) rfl ⟨⟨.slice none 0 0, [], rfl, Own.nil _ _ _, by simp, (by repeat (first | refine Upd.setCell _ ?_ (.inr (by simp)) | refine Upd.alloc _ ?_ | exact Upd.refl _ _))⟩⟩
    · have r0 : (y0 != 200) = true := by simpa using t3
      clear t2 t3
      go_enter Tryz.func25, Tryz.ntmps25
      go_wp2_with fail
      exact bodyPost_ret (v := .tuple #[.agg #[.int .i64 0, .int .i64 0, .int .i64 0, .int .i64 0, .slice none 0 0], .int .i64 4]) (by simp [results, Tryz.results25, go_sem]) rfl ⟨⟨.slice none 0 0, [], rfl, Own.nil _ _ _, by simp, (by repeat (first | refine Upd.setCell _ ?_ (.inr (by simp)) | refine Upd.alloc _ ?_ | exact Upd.refl _ _))⟩⟩
  have HR2 : Hid (_ = R) := (if_neg t2).symm.trans HR1.out
  have r0 : (y0 != 200) = false := by simp; exact Classical.byContradiction fun h => t2 (.inl h)
  have r1 : (y1 != 2) = false := by simp; exact Classical.byContradiction fun h => t2 (.inr h)
  clear HR1 t2
  by_cases t3 : (b.size : Int) < n
  · have hr := HR2.out
    rw [if_pos t3] at hr
    subst hr
    clear HR2
    go_enter Tryz.func25, Tryz.ntmps25
    go_wp2_with fail
    refine (HN2.out _).mono ?_
    rintro e w1 ⟨rfl, rfl⟩
    go_wp2_with fail
    exact bodyPost_ret (v := .tuple #[.agg #[.int .i64 0, .int .i64 0, .int .i64 0, .int .i64 0, .slice none 0 0], .int .i64 5]) (by simp [results, Tryz.results25, go_sem]) rfl ⟨⟨.slice none 0 0, [], rfl, Own.nil _ _ _, by simp, (by repeat (first | refine Upd.setCell _ ?_ (.inr (by simp)) | refine Upd.alloc _ ?_ | exact Upd.refl _ _))⟩⟩
  have HR3 : Hid (_ = R) := (if_neg t3).symm.trans HR2.out
  clear HR2
  by_cases t4 : (n : Int) < 12
  · have hr := HR3.out
    rw [if_pos t4] at hr
    subst hr
    clear HR3
    go_enter Tryz.func25, Tryz.ntmps25
    go_wp2_with fail
    refine (HN2.out _).mono ?_
    rintro e w1 ⟨rfl, rfl⟩
    go_wp2_with fail
    refine (HN2.out _).mono ?_
    rintro e w1 ⟨rfl, rfl⟩
    go_wp2_with fail
    exact bodyPost_ret (v := .tuple #[.agg #[.int .i64 0, .int .i64 0, .int .i64 0, .int .i64 0, .slice none 0 0], .int .i64 4]) (by simp [results, Tryz.results25, go_sem]) rfl ⟨⟨.slice none 0 0, [], rfl, Own.nil _ _ _, by simp, (by repeat (first | refine Upd.setCell _ ?_ (.inr (by simp)) | refine Upd.alloc _ ?_ | exact Upd.refl _ _))⟩⟩
  have HR4 : Hid (_ = R) := (if_neg t4).symm.trans HR3.out
  clear HR3
  obtain ⟨x, hx⟩ : ∃ x, b.extract 12 n = x := ⟨_, rfl⟩
  have hxz : x.size ≤ 400000 := by rw [← hx, ByteArray.size_extract]; omega
  rw [hx] at HR4
  have HG := Lib.hid (fun W => avpGet_any x secret W hxz hs)
  obtain ⟨l, e, hle⟩ : ∃ l e, getA x secret = (l, e) := ⟨_, _, rfl⟩
  rw [hle] at HR4 HG
  dsimp only at HR4 HG
  clear hle hxz
  by_cases t5 : e ≠ 0
  · have hr := HR4.out
    rw [if_pos t5] at hr
    subst hr
    clear HR4
    have t5' : (e != 0) = true := by simpa using t5
    go_enter Tryz.func25, Tryz.ntmps25
    go_wp2_with fail
    refine (HN2.out _).mono ?_
    rintro e w1 ⟨rfl, rfl⟩
    go_wp2_with fail
    refine (HN2.out _).mono ?_
    rintro e w1 ⟨rfl, rfl⟩
    go_wp2_with fail
    refine (HN2.out _).mono ?_
    rintro e w1 ⟨rfl, rfl⟩
    go_wp2_with fail
    have A0 := Blk.new w 55 #[.int .i64 0, .int .i64 0, .int .i64 0, .int .i64 0, .slice none 0 0]
    have U0 := Lib.hid ((Upd.refl [] w).alloc (Obj.cells #[.int .i64 0, .int .i64 0, .int .i64 0, .int .i64 0, .slice none 0 0] 55))
    refine (HG.out _).mono ?_
    rintro e w2 ⟨v, own, rfl, ho, hin, hu2⟩
    have HU2 := Lib.hid (U0.out.trans hu2)
    have B := A0.upd hu2 (by simp)
    have hlt := A0.lt
    have HIN : Hid (∀ k ∈ own, w.heap.size < k) := fun k hk => by have := hin k hk; simp at this; omega
    have HO := Lib.hid ho
    obtain ⟨ao, cap, rfl, -, -⟩ := ho.shape
    clear ho hin hu2 A0
    have c0 := B.cell 0
    have c1 := B.cell 1
    have c2 := B.cell 2
    have c3 := B.cell 3
    have c4 := B.cell 4
    have f0 := B.frozen 0
    have f1 := B.frozen 1
    have f2 := B.frozen 2
    have f3 := B.frozen 3
    have f4 := B.frozen 4
    simp only [List.size_toArray, List.length_cons, List.length_nil, List.getElem?_toArray, List.getElem?_cons_zero, List.getElem?_cons_succ] at c0 c1 c2 c3 c4
    clear B
    obtain ⟨ln, hln⟩ : ∃ ln, l.length = ln := ⟨_, rfl⟩
    have HLN := Lib.hid hln
    rw [hln] at HO ⊢
    clear hln
    go_wp2_with fail
    exact bodyPost_ret (v := .tuple #[.agg #[.int .i64 0, .int .i64 0, .int .i64 0, .int .i64 0, .slice none 0 0], .int .i64 e]) (by simp [results, Tryz.results25, go_sem, c0, c1, c2, c3, c4]) rfl ⟨⟨.slice none 0 0, [], rfl, Own.nil _ _ _, by simp, (by repeat (first | refine Upd.setCell _ ?_ (.inr (by simp)) | exact HU2.out))⟩⟩
  obtain rfl : e = 0 := Classical.not_not.1 t5
  have hr := HR4.out
  rw [if_neg (by simp)] at hr
  subst hr
  clear HR4 t5
  have hb4 := num_bd b 4 2
  generalize num b 4 2 = k4 at *
  generalize num b 6 2 = k6 at *
  generalize num b 8 2 = k8 at *
  generalize num b 10 2 = k10 at *
  go_enter Tryz.func25, Tryz.ntmps25
  go_wp2_with fail
  refine (HN2.out _).mono ?_
  rintro e w1 ⟨rfl, rfl⟩
  go_wp2_with fail
  refine (HN2.out _).mono ?_
  rintro e w1 ⟨rfl, rfl⟩
  go_wp2_with fail
  refine (HN2.out _).mono ?_
  rintro e w1 ⟨rfl, rfl⟩
  go_wp2_with fail
  have A0 := Blk.new w 55 #[.int .i64 0, .int .i64 0, .int .i64 0, .int .i64 0, .slice none 0 0]
  have U0 := Lib.hid ((Upd.refl [] w).alloc (Obj.cells #[.int .i64 0, .int .i64 0, .int .i64 0, .int .i64 0, .slice none 0 0] 55))
  refine (HG.out _).mono ?_
  rintro e w2 ⟨v, own, rfl, ho, hin, hu2⟩
  have HU2 := Lib.hid (U0.out.trans hu2)
  have B := A0.upd hu2 (by simp)
  have hlt := A0.lt
  have HIN : Hid (∀ k ∈ own, w.heap.size < k) := fun k hk => by have := hin k hk; simp at this; omega
  have HO := Lib.hid ho
  obtain ⟨ao, cap, rfl, -, -⟩ := ho.shape
  clear ho hin hu2 A0
  have c0 := B.cell 0
  have c1 := B.cell 1
  have c2 := B.cell 2
  have c3 := B.cell 3
  have c4 := B.cell 4
  have f0 := B.frozen 0
  have f1 := B.frozen 1
  have f2 := B.frozen 2
  have f3 := B.frozen 3
  have f4 := B.frozen 4
  simp only [List.size_toArray, List.length_cons, List.length_nil, List.getElem?_toArray, List.getElem?_cons_zero, List.getElem?_cons_succ] at c0 c1 c2 c3 c4
  clear B
  obtain ⟨ln, hln⟩ : ∃ ln, l.length = ln := ⟨_, rfl⟩
  have HLN := Lib.hid hln
  rw [hln] at HO ⊢
  clear hln
  go_wp2_with fail
  refine (HN4.out _).mono ?_
  rintro e w1 ⟨rfl, rfl⟩
  go_wp2_with fail
  refine (HN6.out _).mono ?_
  rintro e w1 ⟨rfl, rfl⟩
  go_wp2_with fail
  refine (HN8.out _).mono ?_
  rintro e w1 ⟨rfl, rfl⟩
  go_wp2_with fail
  refine (HN10.out _).mono ?_
  rintro e w1 ⟨rfl, rfl⟩
  go_wp2_with fail
  have hne : w.heap.size ∉ own := fun h => Nat.lt_irrefl _ (HIN.out _ h)
  exact bodyPost_ret (v := .tuple #[.agg #[.int .i64 k4, .int .i64 k6, .int .i64 k8, .int .i64 k10, .slice ao ln cap], .int .i64 0]) (by simp [results, Tryz.results25, go_sem, c0, c1, c2, c3, c4]) rfl ⟨⟨_, own, rfl, (by (try rw [HLN.out]); repeat (first | refine Own.setCell _ ?_ hne | exact HO.out)), fun k hk => Nat.le_of_lt (HIN.out k hk), (by repeat (first | refine Upd.setCell _ ?_ (.inr (by simp)) | exact HU2.out))⟩⟩

def isCtlB (b : ByteArray) : Bool := decide (b.size ≠ 0) && decide (128 ≤ byte b 0)
theorem and128 (x : Int) (h : 0 ≤ x ∧ x < 256) : (bits .and .u8 x 128 != 0) = decide (128 ≤ x) := by
  obtain ⟨m, rfl⟩ := Int.eq_ofNat_of_zero_le h.1
  have : ∀ m : Nat, m < 256 → (bits .and .u8 (m : Int) 128 != 0) = decide (128 ≤ (m : Int)) := by decide +kernel
  exact this m (by omega)
end Go.Proofs.YtolfjfkkbhbbbaaGreat
namespace Go.Proofs.YtolfjfkkbhbbbaaGreat
open Go.RowKit
set_option linter.unusedSimpArgs false
set_option linter.unusedVariables false
set_option maxRecDepth 20000

def putM (c : Cm) (secret : ByteArray) : ByteArray × Int :=
  if ([c.t, c.s, c.ns, c.nr] : List Int).any overWord = true then (⟨#[]⟩, 1) else if (putA c.l secret).2 ≠ 0 then (⟨#[]⟩, (putA c.l secret).2) else (rawOf c.t c.s c.ns c.nr (putA c.l secret).1, 0)
set_option maxHeartbeats 4000000 in
theorem msgPutM_any (c : Cm) (v : Value) (secret : ByteArray) (w : World) (hl : AvsAt w v c.l) (hs : secret.size ≤ 400000) :
    Calls Tryz.prog 26 #[c.val v, .string secret] w fun e w' => e = .returned (.tuple #[.string (putM c secret).1, .int .i64 (putM c secret).2]) ∧ Upd [] w w' := by
  obtain ⟨t, s, ns, nr, l⟩ := c
  dsimp only at hl
  obtain ⟨ao, cap, rfl, -⟩ := id hl
  obtain ⟨R, hR⟩ : ∃ R, putM ⟨t, s, ns, nr, l⟩ secret = R := ⟨_, rfl⟩
  have HR : Hid ((if ([t, s, ns, nr] : List Int).any overWord = true then ((⟨#[]⟩ : ByteArray), (1 : Int)) else if (putA l secret).2 ≠ 0 then (⟨#[]⟩, (putA l secret).2) else (rawOf t s ns nr (putA l secret).1, 0)) = R) := hR
  rw [hR]
  clear hR
  simp only [Cm.val]
  obtain ⟨n, hn⟩ : ∃ n, l.length = n := ⟨_, rfl⟩
  rw [hn] at hl ⊢
  clear hn
  have HL := Lib.hid hl
  obtain ⟨A, hA⟩ : ∃ A, A = Obj.cells #[.int .i64 t, .int .i64 s, .int .i64 ns, .int .i64 nr, .slice ao n cap] 55 := ⟨_, rfl⟩
  have A0 : Blk (w.alloc A) w.heap.size 55 #[.int .i64 t, .int .i64 s, .int .i64 ns, .int .i64 nr, .slice ao n cap] := by rw [hA]; exact Blk.new _ _ _
  have U0 : Hid (Upd [] w (w.alloc A)) := (Upd.refl [] w).alloc A
  have HI : Hid (∀ W : World, IntsAt (W.alloc (.cells #[.int .i64 t, .int .i64 s, .int .i64 ns, .int .i64 nr] 3)) (.slice (some ⟨W.heap.size, 0, none⟩) 4 4) [t, s, ns, nr]) := fun W => IntsAt.of_blk (l := [t, s, ns, nr]) (Blk.new _ _ _) (by simp [maxLen])
  have HC : Hid (∀ W, Upd [] (w.alloc A) W → W.cell? ⟨w.heap.size, 0, none⟩ = some (.int .i64 t) ∧ W.cell? ⟨w.heap.size, 1, none⟩ = some (.int .i64 s) ∧ W.cell? ⟨w.heap.size, 2, none⟩ = some (.int .i64 ns) ∧ W.cell? ⟨w.heap.size, 3, none⟩ = some (.int .i64 nr) ∧ W.cell? ⟨w.heap.size, 4, none⟩ = some (.slice ao n cap)) := fun W hu =>
    ⟨(A0.upd hu (by simp)).cell 0, (A0.upd hu (by simp)).cell 1, (A0.upd hu (by simp)).cell 2, (A0.upd hu (by simp)).cell 3, (A0.upd hu (by simp)).cell 4⟩
  have HA := Lib.hid hA
  clear hA A0 hl
  have hc := HC.out _ (Upd.refl [] (w.alloc A))
  have hI := HI.out (w.alloc A)
  rw [show (w.alloc A).heap.size = w.heap.size + 1 by simp] at hI
  cases hw0 : ([t, s, ns, nr] : List Int).any overWord
  rotate_left
  · have hr := HR.out
    rw [if_pos hw0] at hr
    subst hr
    have HW0 := Lib.hid hw0
    clear HR hw0
    go_enter Tryz.func26, Tryz.ntmps26
    go_wp2_with fail
    rw [← HA.out]
    clear HA
    generalize w.alloc A = wA at *
    go_wp2_with fail
    refine (words_any [t, s, ns, nr] _ _ hI).mono ?_
    rintro e w1 ⟨rfl, hu1⟩
    rw [HW0.out]
    go_wp2_with fail
    go_ret2
    exact ⟨rfl, U0.out.trans (((Upd.refl _ _).alloc _).trans hu1)⟩
  have HR1 : Hid (_ = R) := (if_neg (by rw [hw0]; simp)).symm.trans HR.out
  have hrange : (0 ≤ t ∧ t < 65536) ∧ (0 ≤ s ∧ s < 65536) ∧ (0 ≤ ns ∧ ns < 65536) ∧ (0 ≤ nr ∧ nr < 65536) := by
    simp [overWord] at hw0
    omega
  have HW0 := Lib.hid hw0
  have HP := Lib.hid (fun W hW => avpPut_any l (.slice ao n cap) secret W (HL.out.upd hW) hs)
  have hpo := @putA_ok l secret
  obtain ⟨x, e, hxe⟩ : ∃ x e, putA l secret = (x, e) := ⟨_, _, rfl⟩
  rw [hxe] at HR1 HP hpo
  dsimp only at HR1 HP hpo
  clear hw0 HR hxe
  by_cases t1 : e ≠ 0
  · have hr := HR1.out
    rw [if_pos t1] at hr
    subst hr
    have t1' : (e != 0) = true := by simpa using t1
    clear HR1 hpo t1
    go_enter Tryz.func26, Tryz.ntmps26
    go_wp2_with fail
    rw [← HA.out]
    clear HA
    generalize w.alloc A = wA at *
    go_wp2_with fail
    refine (words_any [t, s, ns, nr] _ _ hI).mono ?_
    rintro e w1 ⟨rfl, hu1⟩
    have HU1 : Hid (Upd [] wA w1) := ((Upd.refl _ _).alloc _).trans hu1
    clear hu1 hc
    have hc := HC.out _ HU1.out
    rw [HW0.out]
    go_wp2_with fail
    refine (HP.out _ (U0.out.trans HU1.out)).mono ?_
    rintro e w2 ⟨rfl, hu2⟩
    go_wp2_with fail
    go_ret2
    exact ⟨rfl, U0.out.trans (HU1.out.trans hu2)⟩
  · obtain rfl : e = 0 := Classical.not_not.1 t1
    have hr := HR1.out
    rw [if_neg (by simp)] at hr
    subst hr
    have hxz : x.size ≤ 1488 := by have := hpo rfl; rw [this.2.2.1]; exact this.2.2.2
    have HRAW := Lib.hid (fun W => raw_any t s ns nr (.slice ao n cap) x ⟨hrange.1, hrange.2.1, hrange.2.2.1, hrange.2.2.2, by omega⟩ rfl W)
    generalize rawOf t s ns nr x = y at *
    clear HR1 hpo t1
    go_enter Tryz.func26, Tryz.ntmps26
    go_wp2_with fail
    rw [← HA.out]
    clear HA
    generalize w.alloc A = wA at *
    go_wp2_with fail
    refine (words_any [t, s, ns, nr] _ _ hI).mono ?_
    rintro e w1 ⟨rfl, hu1⟩
    have HU1 : Hid (Upd [] wA w1) := ((Upd.refl _ _).alloc _).trans hu1
    clear hu1 hc
    have hc := HC.out _ HU1.out
    rw [HW0.out]
    go_wp2_with fail
    refine (HP.out _ (U0.out.trans HU1.out)).mono ?_
    rintro e w2 ⟨rfl, hu2⟩
    have HU2 : Hid (Upd [] wA w2) := HU1.out.trans hu2
    clear hu2 hc
    have hc := HC.out _ HU2.out
    go_wp2_with fail
    refine (HRAW.out _).mono ?_
    rintro e w3 ⟨rfl, hu3⟩
    go_wp2_with fail
    go_ret2
    exact ⟨rfl, U0.out.trans (HU2.out.trans hu3)⟩
end Go.Proofs.YtolfjfkkbhbbbaaGreat
namespace Go.Proofs.YtolfjfkkbhbbbaaGreat
open Go.RowKit
set_option linter.unusedSimpArgs false
set_option linter.unusedVariables false

theorem wordsOf_pre : ∀ (l : List Int) (s t : ByteArray), wordsOf l (s ++ t) = s ++ wordsOf l t
  | [], s, t => rfl
  | n :: l, s, t => by rw [wordsOf, wordsOf, ByteArray.append_assoc, wordsOf_pre]
theorem wordsOf_cons (n : Int) (l : List Int) : wordsOf (n :: l) ⟨#[]⟩ = be 2 n ++ wordsOf l ⟨#[]⟩ := by
  rw [wordsOf]
  have h := wordsOf_pre l (be 2 n) ⟨#[]⟩
  have e : be 2 n ++ (⟨#[]⟩ : ByteArray) = be 2 n := ByteArray.append_empty
  have e' : (⟨#[]⟩ : ByteArray) ++ be 2 n = be 2 n := ByteArray.empty_append
  rw [e'] 
  rw [e] at h
  exact h
theorem num_words (a r : ByteArray) : ∀ (l : List Int) (i : Nat) (x : Int), l[i]? = some x → 0 ≤ x ∧ x < 65536 → num (a ++ (wordsOf l ⟨#[]⟩ ++ r)) (a.size + 2 * i) 2 = x
  | [], i, x, h, _ => by simp at h
  | n :: l, 0, x, h, hx => by
    simp at h; subst h
    rw [wordsOf_cons, ByteArray.append_assoc, num_append_r _ _ _ (by omega), show a.size + 2 * 0 - a.size = 0 by omega, num_append_l _ _ _ _ (by rw [be_size]; omega)]
    exact num_be 2 n (by simpa using hx)
  | n :: l, i + 1, x, h, hx => by
    have h2 : l[i]? = some x := by simpa using h
    have := num_words (a ++ be 2 n) r l i x h2 hx
    rw [wordsOf_cons]
    rw [ByteArray.size_append, be_size] at this
    rw [show a.size + 2 * (i + 1) = a.size + 2 + 2 * i by omega, ← this]
    simp only [ByteArray.append_assoc]
/-- Two bytes, words, and what stands behind them, read. -/
theorem laid_read (x y : Int) (l : List Int) (d more : ByteArray) (hx : 0 ≤ x ∧ x < 256) (hy : 0 ≤ y ∧ y < 256) (S : ByteArray) (hS : S = strOfNums [x, y] ++ wordsOf l ⟨#[]⟩ ++ d ++ more) :
    S.size = 2 + 2 * l.length + d.size + more.size ∧ byte S 0 = x ∧ byte S 1 = y ∧ (∀ i z, l[i]? = some z → 0 ≤ z ∧ z < 65536 → num S (2 + 2 * i) 2 = z) ∧ S.extract (2 + 2 * l.length) (2 + 2 * l.length + d.size) = d := by
  have hz : (strOfNums [x, y]).size = 2 := strOfNums_size _
  have hw : (wordsOf l ⟨#[]⟩).size = 2 * l.length := by rw [wordsOf_size]; show 0 + _ = _; omega
  have hb : ∀ i, i < 2 → byte S i = byte (strOfNums [x, y]) i := fun i hi => by
    rw [hS, append_byte_l _ _ _ (by rw [ByteArray.size_append, ByteArray.size_append]; omega), append_byte_l _ _ _ (by rw [ByteArray.size_append]; omega), append_byte_l _ _ _ (by omega)]
  refine ⟨?_, ?_, ?_, ?_, ?_⟩
  · rw [hS, ByteArray.size_append, ByteArray.size_append, ByteArray.size_append, hz, hw]
  · rw [hb 0 (by omega)]
    simp [byte, strOfNums]
    omega
  · rw [hb 1 (by omega)]
    simp [byte, strOfNums]
    omega
  · intro i z hi hzz
    have := num_words (strOfNums [x, y]) (d ++ more) l i z hi hzz
    rw [hz] at this
    rw [hS, ByteArray.append_assoc, ByteArray.append_assoc, this]
  · rw [hS]
    rw [extract_app_left _ _ _ _ (by rw [ByteArray.size_append, ByteArray.size_append, hz, hw]; omega)]
    exact ByteArray.extract_append_eq_right (by rw [ByteArray.size_append, hz, hw]) (by rw [ByteArray.size_append, hz, hw])

theorem getM_putM {c : Cm} {secret : ByteArray} (h : (putM c secret).2 = 0) (more : ByteArray) : getM ((putM c secret).1 ++ more) secret = (c, 0) := by
  obtain ⟨t, s, ns, nr, l⟩ := c
  unfold putM at h ⊢
  dsimp only at h ⊢
  by_cases t1 : ([t, s, ns, nr] : List Int).any overWord = true
  · rw [if_pos t1] at h; cases h
  rw [if_neg t1] at h ⊢
  by_cases t2 : (putA l secret).2 ≠ 0
  · rw [if_pos t2] at h; exact absurd h t2
  rw [if_neg t2]
  have t3 := Classical.not_not.1 t2
  have hg := getA_put t3
  obtain ⟨-, -, h3, h4⟩ := putA_ok t3
  rw [← h3] at h4
  generalize (putA l secret).1 = x at *
  have hr : (0 ≤ t ∧ t < 65536) ∧ (0 ≤ s ∧ s < 65536) ∧ (0 ≤ ns ∧ ns < 65536) ∧ (0 ≤ nr ∧ nr < 65536) := by
    simp [overWord] at t1
    omega
  obtain ⟨g1, g2, g3, g4, g5⟩ := laid_read 200 2 [(x.size : Int) + 12, t, s, ns, nr] x more (by omega) (by omega) (rawOf t s ns nr x ++ more) rfl
  have k0 := g4 0 _ rfl (by omega)
  have k1 := g4 1 _ rfl hr.1
  have k2 := g4 2 _ rfl hr.2.1
  have k3 := g4 3 _ rfl hr.2.2.1
  have k4 := g4 4 _ rfl hr.2.2.2
  simp only [List.length_cons, List.length_nil, Nat.reduceAdd, Nat.reduceMul, Nat.mul_zero] at g1 g5 k0 k1 k2 k3 k4
  dsimp only
  generalize rawOf t s ns nr x ++ more = S at *
  unfold getM
  rw [if_neg (by omega), if_neg (by rw [g2, g3]; simp), k0, k1, k2, k3, k4, if_neg (by omega), if_neg (by omega), show ((x.size : Int) + 12).toNat = 12 + x.size by omega, g5, hg, if_neg (by simp)]
end Go.Proofs.YtolfjfkkbhbbbaaGreat
