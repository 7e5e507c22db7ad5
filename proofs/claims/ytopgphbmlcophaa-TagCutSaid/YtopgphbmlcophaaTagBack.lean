/- The walk of the statement TagBack. -/
import Derived.Test.YtopgphbmlcophaaTagFinds
import Derived.Test.YtopgphbmlcophaaTagP
namespace Go.Proofs.Ytopgphbmlcophaa
open Go.RowKit
set_option linter.unusedSimpArgs false

theorem tgsSelf (l : List Tg) (v u : Value) (w : World) (hl : TgsAt w v l) (hm : TgsAt w u l) :
    Calls Try.prog 10 #[v, u] w fun e w' => e = .returned (.bool true) ∧ Upd [] w w' :=
  (same_any l l v u w hl hm).mono fun e w' ⟨he, hu⟩ => ⟨by rw [he]; simp, hu⟩

set_option maxHeartbeats 4000000 in
set_option maxRecDepth 100000 in
theorem tagBack_any (d : Dc) (l : List Tg) (v : Value) (more : ByteArray) (w : World) (hl : TgsAt w v l) (hls : ∀ t ∈ l, t.s.size ≤ 140737488355328) (hd : d.data.size ≤ 140737488355328) (hmo : more.size ≤ 140737488355328) :
    Calls Try.prog 4 #[d.val, v, .string more] w fun e w' => e = .returned (.bool true) ∧ Upd [] w w' := by
  obtain ⟨ao, cap, rfl, hc1, hc2, -⟩ := id hl
  have HL := Lib.hid hl
  have HLS := Lib.hid hls
  clear hl hls
  obtain ⟨A, hA⟩ : ∃ A, A = Obj.cells #[Value.int IntKind.i64 d.code, Value.int IntKind.i64 d.sess, Value.string d.data] 30 := ⟨_, rfl⟩
  have A0 : Blk (w.alloc A) w.heap.size 30 #[Value.int IntKind.i64 d.code, Value.int IntKind.i64 d.sess, Value.string d.data] := by rw [hA]; exact Blk.new _ _ _
  have U0 := Lib.hid ((Upd.refl [] w).alloc A)
  have HA := Lib.hid hA
  have HC : Hid (∀ W, Upd [] (w.alloc A) W → W.cell? ⟨w.heap.size, 0, none⟩ = some (.int .i64 d.code) ∧ W.cell? ⟨w.heap.size, 1, none⟩ = some (.int .i64 d.sess) ∧ W.cell? ⟨w.heap.size, 2, none⟩ = some (.string d.data)) := fun W hu =>
    ⟨(A0.upd hu (by simp)).cell 0, (A0.upd hu (by simp)).cell 1, (A0.upd hu (by simp)).cell 2⟩
  clear A0 hA
  by_cases t1 : Light l = true
  rotate_left
  · have T1 : Hid (Light l = false) := by show _ = _; simpa using t1
    clear t1
    go_enter Try.func4, Try.ntmps4
    simp only [Dc.val]
    go_wp2_with fail
    rw [← HA.out]
    refine (light_any l _ _ (HL.out.upd U0.out) HLS.out).mono ?_
    rintro e w1 ⟨rfl, hu1⟩
    rw [T1.out]
    go_wp2_with fail
    refine (alive_any _).mono ?_
    rintro e w2 ⟨rfl, hu2⟩
    go_wp2_with fail
    go_ret
    exact ⟨rfl, (U0.out.trans hu1).trans hu2⟩
  have T1 := Lib.hid t1
  clear t1
  by_cases t2 : 6000 < d.data.size + more.size
  · have t2' : (6000 : Int) < d.data.size + more.size := by omega
    go_enter Try.func4, Try.ntmps4
    simp only [Dc.val]
    go_wp2_with fail
    rw [← HA.out]
    refine (light_any l _ _ (HL.out.upd U0.out) HLS.out).mono ?_
    rintro e w1 ⟨rfl, hu1⟩
    rw [T1.out]
    have hc := HC.out w1 hu1
    go_wp2_with fail
    refine (alive_any _).mono ?_
    rintro e w2 ⟨rfl, hu2⟩
    go_wp2_with fail
    go_ret
    exact ⟨rfl, (U0.out.trans hu1).trans hu2⟩
  have t2' : ¬ (6000 : Int) < d.data.size + more.size := by omega
  obtain ⟨b, e0, hp⟩ : ∃ b e, d.put = (b, e) := ⟨_, _, rfl⟩
  obtain ⟨s, g0, hq⟩ : ∃ b e, putTgs l = (b, e) := ⟨_, _, rfl⟩
  have HP := Lib.hid hp
  have HQ := Lib.hid hq
  go_enter Try.func4, Try.ntmps4
  simp only [Dc.val]
  go_wp2_with fail
  rw [← HA.out]
  refine (light_any l _ _ (HL.out.upd U0.out) HLS.out).mono ?_
  rintro e w1 ⟨rfl, hu1⟩
  rw [T1.out]
  have HU1 := Lib.hid hu1
  have hc := HC.out w1 hu1
  clear hu1
  go_wp2_with fail
  refine (put_any d (by simp only [maxLen]; omega) _).mono ?_
  rintro e w2 ⟨rfl, hu2⟩
  rw [HP.out]
  have HU2 := Lib.hid (HU1.out.trans hu2)
  have hc2 := HC.out w2 (HU1.out.trans hu2)
  clear hu2 HU1 hc
  by_cases he : e0 = 0
  focus
    subst he
    obtain ⟨rfl, hok⟩ := Dc.put_ok hp
    have HG := Lib.hid (Dc.get_back hok more)
    have hsz := Dc.bytes_size d
    have hadd := run_string_add_sum (P := Try.prog) w2 d.bytes more (by omega)
    have HSZ : Hid ((d.bytes ++ more).size ≤ maxLen) := by show _ ≤ _; rw [ByteArray.size_append, hsz]; simp only [maxLen]; omega
    clear hp hok hsz hq
    go_wp2_with fail
    refine (get_any (d.bytes ++ more) HSZ.out _).mono ?_
    rintro e w4 ⟨rfl, hu4⟩
    rw [HG.out]
    simp only [Dc.val]
    have hc4 := HC.out (w4.alloc (Obj.cells #[Value.int IntKind.i64 d.code, Value.int IntKind.i64 d.sess, Value.string d.data] 30)) ((HU2.out.trans hu4).alloc _)
    have HU5 := Lib.hid (U0.out.trans ((HU2.out.trans hu4).alloc (Obj.cells #[Value.int IntKind.i64 d.code, Value.int IntKind.i64 d.sess, Value.string d.data] 30)))
    clear hu4 HU2 hc2 hadd
    go_wp2_with fail
    clear hc4 HG HP
  rotate_left
  focus
    have he' : (e0 == 0) = false := by simpa using he
    have HU5 := Lib.hid (U0.out.trans HU2.out)
    clear he hp hc2 hq
    go_wp2_with fail
    clear he' HP HU2
  all_goals
    clear HC HA U0 T1
    refine (putTags_any l _ _ (HL.out.upd HU5.out) HLS.out).mono ?_
    rintro e w6 ⟨rfl, hu6⟩
    rw [HQ.out]
    have HU6 := Lib.hid (HU5.out.trans hu6)
    clear hu6 HU5
    by_cases hg : g0 = 0
    · subst hg
      obtain ⟨hs, h20, hall⟩ := putTgs_ok l s HQ.out
      have HG1 := Lib.hid (getTgs_back l hall h20)
      have HG2 := Lib.hid (getTgs_end l hall h20 more)
      rw [← hs] at HG1 HG2
      have HS : Hid (s.size ≤ 40000) := by
        show _ ≤ _
        rw [hs, encTgs_size]
        have : ∀ m : List Tg, (∀ t ∈ m, t.Ok) → lenAll m ≤ m.length * 1498 := by
          intro m hm
          induction m with
          | nil => simp [lenAll]
          | cons t m ih =>
            have h1 := ih (fun x hx => hm x (by simp [hx]))
            have h2 := (hm t (by simp)).2.2
            rw [lenAll_cons, List.length_cons, Nat.add_mul]
            omega
        have := this l hall
        omega
      clear hs h20 hall HQ
      go_wp2_with fail
      refine (getTags_any s (by have := HS.out; omega) _).mono ?_
      rintro e w7 ⟨v7, rfl, ht7, hu7⟩
      rw [HG1.out] at ht7
      rw [HG1.out]
      have HT7 := Lib.hid ht7
      have HU7 := Lib.hid (HU6.out.trans hu7)
      clear ht7 hu7 HU6
      have HSM : Hid ((s ++ ⟨#[0, 0]⟩ ++ more).size ≤ 140737488355328) := by
        show _ ≤ _
        have h1 := HS.out
        have h2 : (⟨#[0, 0]⟩ : ByteArray).size = 2 := rfl
        rw [ByteArray.size_append, ByteArray.size_append]
        omega
      have ha1 := run_string_add_sum (P := Try.prog) w7 s ⟨#[0, 0]⟩ (by have := HS.out; show _ + 2 ≤ _; omega)
      have ha2 := run_string_add_sum (P := Try.prog) w7 (s ++ ⟨#[0, 0]⟩) more (by rw [ByteArray.size_append]; have := HS.out; show _ + 2 + _ ≤ _; omega)
      go_wp2_with fail
      generalize s ++ ⟨#[0, 0]⟩ ++ more = S2 at *
      refine (getTags_any S2 HSM.out _).mono ?_
      rintro e w8 ⟨v8, rfl, ht8, hu8⟩
      rw [HG2.out] at ht8
      rw [HG2.out]
      have HT8 := Lib.hid ht8
      have HT7 := Lib.hid (HT7.out.upd hu8)
      have HU8 := Lib.hid (HU7.out.trans hu8)
      clear ht8 hu8 HU7 ha1 ha2
      go_wp2_with fail
      refine (alive_any _).mono ?_
      rintro e w9 ⟨rfl, hu9⟩
      have HU9 := Lib.hid (HU8.out.trans hu9)
      have HT8 := Lib.hid (HT8.out.upd hu9)
      have HT7 := Lib.hid (HT7.out.upd hu9)
      clear hu9 HU8
      go_wp2_with fail
      refine (tgsSelf l v7 _ _ HT7.out (HL.out.upd HU9.out)).mono ?_
      rintro e w10 ⟨rfl, hu10⟩
      have HU10 := Lib.hid (HU9.out.trans hu10)
      have HT8 := Lib.hid (HT8.out.upd hu10)
      clear hu10 HU9
      go_wp2_with fail
      refine (tgsSelf l v8 _ _ HT8.out (HL.out.upd HU10.out)).mono ?_
      rintro e w11 ⟨rfl, hu11⟩
      go_wp2_with fail
      go_ret
      exact ⟨rfl, HU10.out.trans hu11⟩
    · obtain rfl := (putTgs_bad l s g0 HQ.out).resolve_left hg
      have hg' : (g0 != 0) = true := by simpa using hg
      clear hg
      go_wp2_with fail
      refine (alive_any _).mono ?_
      rintro e w7 ⟨rfl, hu7⟩
      go_wp2_with fail
      go_ret
      exact ⟨rfl, HU6.out.trans hu7⟩
end Go.Proofs.Ytopgphbmlcophaa
