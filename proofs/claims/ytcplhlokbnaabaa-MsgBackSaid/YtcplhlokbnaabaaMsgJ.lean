/- The walk of msg.Put. -/
import Derived.Test.YtcplhlokbnaabaaMsgI
namespace Go.Proofs.Ytcplhlokbnaabaa
open Go.RowKit
set_option linter.unusedSimpArgs false
set_option linter.unusedVariables false
set_option maxRecDepth 20000

def putM (c : Cm) (secret : ByteArray) : ByteArray × Int :=
  if ([c.t, c.s, c.ns, c.nr] : List Int).any overWord = true then (⟨#[]⟩, 1) else if (putA c.l secret).2 ≠ 0 then (⟨#[]⟩, (putA c.l secret).2) else (rawOf c.t c.s c.ns c.nr (putA c.l secret).1, 0)
set_option maxHeartbeats 4000000 in
theorem msgPutM_any (c : Cm) (v : Value) (secret : ByteArray) (w : World) (hl : AvsAt w v c.l) (hs : secret.size ≤ 400000) :
    Calls Try.prog 18 #[c.val v, .string secret] w fun e w' => e = .returned (.tuple #[.string (putM c secret).1, .int .i64 (putM c secret).2]) ∧ Upd [] w w' := by
  obtain ⟨t, s, ns, nr, l⟩ := c
  dsimp only at hl
  obtain ⟨ao, cap, rfl, -⟩ := id hl
  obtain ⟨R, hR⟩ : ∃ R, putM ⟨t, s, ns, nr, l⟩ secret = R := ⟨_, rfl⟩
  have HR : Hid ((if ([t, s, ns, nr] : List Int).any overWord = true then ((⟨#[]⟩ : ByteArray), (1 : Int)) else if (putA l secret).2 ≠ 0 then (⟨#[]⟩, (putA l secret).2) else (rawOf t s ns nr (putA l secret).1, 0)) = R) := hR
  rw [hR]
  clear hR
  simp only [Cm.val]
  obtain ⟨n, hn⟩ : ∃ n, l.length = n := ⟨_, rfl⟩
  rw [hn] at hl ⊢
  clear hn
  have HL := Lib.hid hl
  obtain ⟨A, hA⟩ : ∃ A, A = Obj.cells #[.int .i64 t, .int .i64 s, .int .i64 ns, .int .i64 nr, .slice ao n cap] 33 := ⟨_, rfl⟩
  have A0 : Blk (w.alloc A) w.heap.size 33 #[.int .i64 t, .int .i64 s, .int .i64 ns, .int .i64 nr, .slice ao n cap] := by rw [hA]; exact Blk.new _ _ _
  have U0 : Hid (Upd [] w (w.alloc A)) := (Upd.refl [] w).alloc A
  have HI : Hid (∀ W : World, IntsAt (W.alloc (.cells #[.int .i64 t, .int .i64 s, .int .i64 ns, .int .i64 nr] 3)) (.slice (some ⟨W.heap.size, 0, none⟩) 4 4) [t, s, ns, nr]) := fun W => IntsAt.of_blk (l := [t, s, ns, nr]) (Blk.new _ _ _) (by simp [maxLen])
  have HC : Hid (∀ W, Upd [] (w.alloc A) W → W.cell? ⟨w.heap.size, 0, none⟩ = some (.int .i64 t) ∧ W.cell? ⟨w.heap.size, 1, none⟩ = some (.int .i64 s) ∧ W.cell? ⟨w.heap.size, 2, none⟩ = some (.int .i64 ns) ∧ W.cell? ⟨w.heap.size, 3, none⟩ = some (.int .i64 nr) ∧ W.cell? ⟨w.heap.size, 4, none⟩ = some (.slice ao n cap)) := fun W hu =>
    ⟨(A0.upd hu (by simp)).cell 0, (A0.upd hu (by simp)).cell 1, (A0.upd hu (by simp)).cell 2, (A0.upd hu (by simp)).cell 3, (A0.upd hu (by simp)).cell 4⟩
  have HA := Lib.hid hA
  clear hA A0 hl
  have hc := HC.out _ (Upd.refl [] (w.alloc A))
  have hI := HI.out (w.alloc A)
  rw [show (w.alloc A).heap.size = w.heap.size + 1 by simp] at hI
  cases hw0 : ([t, s, ns, nr] : List Int).any overWord
  rotate_left
  · have hr := HR.out
    rw [if_pos hw0] at hr
    subst hr
    have HW0 := Lib.hid hw0
    clear HR hw0
    go_enter Try.func18, Try.ntmps18
    go_wp2_with fail
    rw [← HA.out]
    clear HA
    generalize w.alloc A = wA at *
    go_wp2_with fail
    refine (words_any [t, s, ns, nr] _ _ hI).mono ?_
    rintro e w1 ⟨rfl, hu1⟩
    rw [HW0.out]
    go_wp2_with fail
    go_ret2
    exact ⟨rfl, U0.out.trans (((Upd.refl _ _).alloc _).trans hu1)⟩
  have HR1 : Hid (_ = R) := (if_neg (by rw [hw0]; simp)).symm.trans HR.out
  have hrange : (0 ≤ t ∧ t < 65536) ∧ (0 ≤ s ∧ s < 65536) ∧ (0 ≤ ns ∧ ns < 65536) ∧ (0 ≤ nr ∧ nr < 65536) := by
    simp [overWord] at hw0
    omega
  have HW0 := Lib.hid hw0
  have HP := Lib.hid (fun W hW => avpPut_any l (.slice ao n cap) secret W (HL.out.upd hW) hs)
  have hpo := @putA_ok l secret
  obtain ⟨x, e, hxe⟩ : ∃ x e, putA l secret = (x, e) := ⟨_, _, rfl⟩
  rw [hxe] at HR1 HP hpo
  dsimp only at HR1 HP hpo
  clear hw0 HR hxe
  by_cases t1 : e ≠ 0
  · have hr := HR1.out
    rw [if_pos t1] at hr
    subst hr
    have t1' : (e != 0) = true := by simpa using t1
    clear HR1 hpo t1
    go_enter Try.func18, Try.ntmps18
    go_wp2_with fail
    rw [← HA.out]
    clear HA
    generalize w.alloc A = wA at *
    go_wp2_with fail
    refine (words_any [t, s, ns, nr] _ _ hI).mono ?_
    rintro e w1 ⟨rfl, hu1⟩
    have HU1 : Hid (Upd [] wA w1) := ((Upd.refl _ _).alloc _).trans hu1
    clear hu1 hc
    have hc := HC.out _ HU1.out
    rw [HW0.out]
    go_wp2_with fail
    refine (HP.out _ (U0.out.trans HU1.out)).mono ?_
    rintro e w2 ⟨rfl, hu2⟩
    go_wp2_with fail
    go_ret2
    exact ⟨rfl, U0.out.trans (HU1.out.trans hu2)⟩
  · obtain rfl : e = 0 := Classical.not_not.1 t1
    have hr := HR1.out
    rw [if_neg (by simp)] at hr
    subst hr
    have hxz : x.size ≤ 1488 := by have := hpo rfl; rw [this.2.2.1]; exact this.2.2.2
    have HRAW := Lib.hid (fun W => raw_any t s ns nr (.slice ao n cap) x ⟨hrange.1, hrange.2.1, hrange.2.2.1, hrange.2.2.2, by omega⟩ rfl W)
    generalize rawOf t s ns nr x = y at *
    clear HR1 hpo t1
    go_enter Try.func18, Try.ntmps18
    go_wp2_with fail
    rw [← HA.out]
    clear HA
    generalize w.alloc A = wA at *
    go_wp2_with fail
    refine (words_any [t, s, ns, nr] _ _ hI).mono ?_
    rintro e w1 ⟨rfl, hu1⟩
    have HU1 : Hid (Upd [] wA w1) := ((Upd.refl _ _).alloc _).trans hu1
    clear hu1 hc
    have hc := HC.out _ HU1.out
    rw [HW0.out]
    go_wp2_with fail
    refine (HP.out _ (U0.out.trans HU1.out)).mono ?_
    rintro e w2 ⟨rfl, hu2⟩
    have HU2 : Hid (Upd [] wA w2) := HU1.out.trans hu2
    clear hu2 hc
    have hc := HC.out _ HU2.out
    go_wp2_with fail
    refine (HRAW.out _).mono ?_
    rintro e w3 ⟨rfl, hu3⟩
    go_wp2_with fail
    go_ret2
    exact ⟨rfl, U0.out.trans (HU2.out.trans hu3)⟩
end Go.Proofs.Ytcplhlokbnaabaa
