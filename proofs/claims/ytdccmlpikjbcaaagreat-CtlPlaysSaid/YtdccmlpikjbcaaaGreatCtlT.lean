/- The walk of 'Take'. -/
import Derived.Test.YtdccmlpikjbcaaaGreatCtlB
import Derived.Test.YtdccmlpikjbcaaaGreatStr
namespace Go.Proofs.YtdccmlpikjbcaaaGreat
open Go.RowKit
set_option maxRecDepth 100000

def in16 (n : Int) : Bool := decide (0 ≤ n) && decide (n ≤ 65535)
theorem in16_iff (n : Int) : in16 n = true ↔ (0 ≤ n ∧ n ≤ 65535) := by simp [in16]
set_option maxHeartbeats 400000 in
theorem takeIn_any (n : Int) (w : World) :
    Calls Tryz.prog 30 #[.int .i64 n] w fun e w' => e = .returned (.bool (in16 n)) ∧ w = w' := by
  go_enter Tryz.func30, Tryz.ntmps30
  go_wp2
  all_goals
    go_ret
    refine ⟨?_, rfl⟩
    simp_all [in16]
  all_goals omega

/-- What Take leaves: the channel at b, and the strings that it tells in memory of their own. -/
structure TakeEnd (w : World) (b : Nat) (vw : Value) (of : List Nat) (p : C × List ByteArray) (e : Ending) (w' : World) : Prop where
  ex : ∃ vf' v ol, e = .returned v ∧ Blk w' b 81 (p.1.cells vw vf') ∧ Own w' 9 1 vf' p.1.flies.length (strs p.1.flies) of ∧
    Own w' 9 1 v p.2.length (strs p.2) ol ∧ (∀ k, k ∈ ol → w.heap.size ≤ k) ∧ Upd [b] w w'

set_option maxHeartbeats 1000000 in
theorem take_any (b : Nat) (c : C) (vw vf : Value) (ns nr : Int) (body : ByteArray) (of : List Nat) (w : World) (hk : c.ok) (hb : Blk w b 81 (c.cells vw vf))
    (hf : Own w 9 1 vf c.flies.length (strs c.flies) of) (hs : body.size ≤ 281474976710656) :
    Calls Tryz.prog 9 #[.pointer (some ⟨b, 0, none⟩), .agg #[.int .i64 ns, .int .i64 nr, .string body]] w (TakeEnd w b vw of (c.take ns nr body)) := by
  have hblt := hb.lt
  have hnb : b ∉ of := hf.ne_blk hb (by decide)
  obtain ⟨DM, hDM⟩ : ∃ x, x = c.made := ⟨_, rfl⟩
  have hm := hk.d1
  by_cases t1 : c.dead = true
  · go_enter Tryz.func9, Tryz.ntmps9
    go_wp2_with first
      | (go_at_call 22; refine (dead_any b c vw vf _ (hb.alloc _)).mono ?_; rintro e w' ⟨rfl, rfl⟩)
      | (go_at_call 30; refine (takeIn_any _ _).mono ?_; rintro e w' ⟨rfl, rfl⟩)
    go_ret
    have hc : c.take ns nr body = (c, []) := by unfold C.take; rw [if_pos (.inl t1)]
    rw [hc]
    exact ⟨_, _, [], rfl, hb.alloc _, hf.alloc _, Own.nil _ _ _, by simp, (Upd.refl _ _).alloc _⟩
  have t1 : c.dead = false := by simpa using t1
  by_cases t2 : in16 ns = true
  case neg =>
    have t2 : in16 ns = false := by simpa using t2
    go_enter Tryz.func9, Tryz.ntmps9
    go_wp2_with first
      | (go_at_call 22; refine (dead_any b c vw vf _ (hb.alloc _)).mono ?_; rintro e w' ⟨rfl, rfl⟩)
      | (go_at_call 30; refine (takeIn_any _ _).mono ?_; rintro e w' ⟨rfl, rfl⟩)
    go_ret
    have hc : c.take ns nr body = (c, []) := by unfold C.take; rw [if_pos (.inr (.inl (by rw [← in16_iff]; simp [t2])))]
    rw [hc]
    exact ⟨_, _, [], rfl, hb.alloc _, hf.alloc _, Own.nil _ _ _, by simp, (Upd.refl _ _).alloc _⟩
  by_cases t3 : in16 nr = true
  case neg =>
    have t3 : in16 nr = false := by simpa using t3
    go_enter Tryz.func9, Tryz.ntmps9
    go_wp2_with first
      | (go_at_call 22; refine (dead_any b c vw vf _ (hb.alloc _)).mono ?_; rintro e w' ⟨rfl, rfl⟩)
      | (go_at_call 30; refine (takeIn_any _ _).mono ?_; rintro e w' ⟨rfl, rfl⟩)
    go_ret
    have hc : c.take ns nr body = (c, []) := by unfold C.take; rw [if_pos (.inr (.inr (by rw [← in16_iff]; simp [t3])))]
    rw [hc]
    exact ⟨_, _, [], rfl, hb.alloc _, hf.alloc _, Own.nil _ _ _, by simp, (Upd.refl _ _).alloc _⟩
  have hka := C.acked_ok hk nr
  have hc0 : ¬ (c.dead = true ∨ ¬ (0 ≤ ns ∧ ns ≤ 65535) ∨ ¬ (0 ≤ nr ∧ nr ≤ 65535)) := by
    rw [in16_iff] at t2 t3; simp [t1, t2, t3]
  have HC0 := Lib.hid hc0
  have HK := Lib.hid hka
  clear hc0 hka
  go_enter Tryz.func9, Tryz.ntmps9
  go_wp2_with first
      | (go_at_call 22; refine (dead_any b c vw vf _ (hb.alloc _)).mono ?_; rintro e w' ⟨rfl, rfl⟩)
      | (go_at_call 30; refine (takeIn_any _ _).mono ?_; rintro e w' ⟨rfl, rfl⟩)
      | (go_at_call 31; fail)
  refine (acked_any b c vw vf nr of _ hk (hb.alloc _) (hf.alloc _)).mono ?_
  rintro e w1 ⟨rfl, vf1, hb1, hf1, hu1⟩
  have hi := (Blk.new w 53 #[.int .i64 ns, .int .i64 nr, .string body]).upd hu1 (by simp; omega)
  have i0 := hi.cell 0
  have i2 := hi.cell 2
  simp at i0 i2
  have HI := Lib.hid hi
  have g5 := hb1.cell 5
  have g14 := hb1.cell 14
  have gf := hb1.frozen
  simp [C.cells] at g5 g14
  have hlt := hi.lt
  have HB1 := Lib.hid hb1
  have HF1 := Lib.hid hf1
  have HU1 := Lib.hid hu1
  have a1 := HK.out.c1
  have a2 := HK.out.c2
  clear hi hb1 hf1 hu1 hb hf hk t1 t2 t3
  by_cases h0 : body.size = 0
  · have h0' : body.toList.isEmpty = true := by rw [str_empty]; simpa using h0
    have HZ := Lib.hid h0
    clear h0
    go_wp2
    go_ret
    have hc : c.take ns nr body = (c.acked nr, []) := by unfold C.take; rw [if_neg HC0.out, if_pos HZ.out]
    rw [hc]
    exact ⟨_, _, [], rfl, HB1.out, HF1.out, Own.nil _ _ _, by simp, ((Upd.refl _ _).alloc _).trans HU1.out⟩
  have h0' : body.toList.isEmpty = false := by rw [str_empty]; simpa using h0
  have HZ := Lib.hid h0
  clear h0
  go_wp2
  go_quiet (fail)
  go_wp2_with (go_at_call 29; refine (clone_any _ _ hs).mono ?_; rintro e w2 ⟨rfl, hu2⟩)
  · go_ret
    have t5 : (ns != (c.acked nr).came) = true := by assumption
    have hc : c.take ns nr body = ({ c.acked nr with owed := true }, []) := by
      unfold C.take; rw [if_neg HC0.out, if_neg HZ.out, if_pos (by simpa using t5)]
    rw [hc]
    refine ⟨vf1, _, [], rfl, ?_, ?_, Own.nil _ _ _, by simp, ?_⟩
    · apply Blk.of_eq
      · repeat (with_reducible first | exact HB1.out | apply Blk.drewN | apply Blk.drew | apply Blk.set_)
      · rfl
    · exact (HF1.out.setCell _ hnb).drewN _
    · exact (((((Upd.refl [b] _).alloc _).trans HU1.out)).setCell _ (by simp)).drewN _
  · go_ret
    have t5 : (ns != (c.acked nr).came) = false := by assumption
    have hc : c.take ns nr body = ({ c.acked nr with owed := true, came := ((c.acked nr).came + 1) % 65536 }, [body]) := by
      unfold C.take; rw [if_neg HC0.out, if_neg HZ.out, if_neg (by simpa using t5)]
    rw [hc]
    have hsz := hu2.size
    have hsz1 := HU1.out.size
    simp at hsz hsz1
    refine ⟨vf1, _, _, rfl, ?_, ?_, Own.one_new _ _ _, ?_, ?_⟩
    · refine Blk.alloc _ (Blk.upd ?_ hu2 (by simp))
      apply Blk.of_eq
      · repeat (with_reducible first | exact HB1.out | apply Blk.drewN | apply Blk.drew | apply Blk.set_)
      · simp [C.cells, wrap_u16]
    · exact (Own.upd (((HF1.out.setCell _ hnb).drewN _).setCell _ hnb) hu2 (by simp)).alloc _
    · intro k hk
      simp at hk
      omega
    · exact (Upd.trans' ((((((Upd.refl [b] _).alloc _).trans HU1.out)).setCell _ (by simp)).drewN _ |>.setCell _ (by simp)) hu2 (by simp)).alloc _
end Go.Proofs.YtdccmlpikjbcaaaGreat
