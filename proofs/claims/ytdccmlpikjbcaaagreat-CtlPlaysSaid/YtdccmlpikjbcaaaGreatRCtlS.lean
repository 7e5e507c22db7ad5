/- WRITTEN by wip/gen/rctlk.py. The walk of Send of the document's channel. -/
import Derived.Test.YtdccmlpikjbcaaaGreatRCtlA
import Derived.Test.YtdccmlpikjbcaaaGreatCtlS
import Derived.Test.YtdccmlpikjbcaaaGreatRd
import Derived.Test.YtdccmlpikjbcaaaGreatBkP
namespace Go.Proofs.YtdccmlpikjbcaaaGreat
open Go.RowKit
set_option linter.unusedSimpArgs false
set_option linter.unusedVariables false
set_option maxRecDepth 100000

structure RSendEnd (w : World) (b : Nat) (vf : Value) (ow : List Nat) (p : C × Int) (e : Ending) (w' : World) : Prop where
  ex : ∃ vw' ow', e = .returned (.int .i64 p.2) ∧ Blk w' b 74 (p.1.rcells vw' vf) ∧ Own w' 9 1 vw' p.1.waits.length (strs p.1.waits) ow' ∧
    (∀ k, k ∈ ow' → k ∈ ow ∨ w.heap.size ≤ k) ∧ Upd [b] w w'
set_option maxHeartbeats 2000000 in
theorem rsend_any (b : Nat) (c : C) (vw vf : Value) (body : ByteArray) (ow : List Nat) (w : World) (hk : c.ok) (hb : Blk w b 74 (c.rcells vw vf))
    (ho : Own w 9 1 vw c.waits.length (strs c.waits) ow) :
    Calls Tryz.prog 8 #[.pointer (some ⟨b, 0, none⟩), .string body] w (RSendEnd w b vf ow (c.send body)) := by
  obtain ⟨ao, cap, rfl, hcap, hmx⟩ := ho.shape
  obtain ⟨n, hn⟩ : ∃ n, n = c.waits.length := ⟨_, rfl⟩
  have l1 := hk.l1
  have q2 := hk.q2
  rw [← hn] at hb hcap l1 ho
  have hnb : b ∉ ow := ho.ne_blk hb (by decide)
  have blt := hb.lt
  have h1 := hb.cell 1
  have h4 := hb.cell 4
  have h15 := hb.cell 15
  simp [C.rcells] at h1 h4 h15
  have HB := Lib.hid hb
  have HN := Lib.hid hn
  have HO := Lib.hid ho
  have HR := Lib.hid (ho.rdB (strs_oneCell _))
  clear hb ho hk
  by_cases t1 : c.dead = true
  · have HC := Lib.hid (show c.send body = (c, 20) by unfold C.send; rw [if_pos t1])
    clear hn
    go_enter Tryz.func8, Tryz.ntmps8
    go_wp2_with fail
    go_ret
    rw [HC.out]
    exact ⟨_, _, rfl, HB.out, HN.out ▸ HO.out, fun k hk => .inl hk, Upd.refl _ _⟩
  have t1' : c.dead = false := by simpa using t1
  by_cases t2 : body.size = 0 ∨ 1500 < body.size
  · have HC := Lib.hid (show c.send body = (c, 1) by unfold C.send; rw [if_neg t1, if_pos t2])
    clear hn t1
    rcases t2 with t2 | t2
    · have h0' : body.toList.isEmpty = true := str_empty_t t2
      clear t2
      go_enter Tryz.func8, Tryz.ntmps8
      go_wp2_with fail
      go_ret
      rw [HC.out]
      exact ⟨_, _, rfl, HB.out, HN.out ▸ HO.out, fun k hk => .inl hk, Upd.refl _ _⟩
    · have h0' : body.toList.isEmpty = false := str_empty_f (by omega)
      go_enter Tryz.func8, Tryz.ntmps8
      go_wp2_with fail
      go_ret
      rw [HC.out]
      exact ⟨_, _, rfl, HB.out, HN.out ▸ HO.out, fun k hk => .inl hk, Upd.refl _ _⟩
  have h0' : body.toList.isEmpty = false := str_empty_f (by omega)
  have h1' : body.size ≤ 1500 := by omega
  by_cases t3 : c.queue ≤ n
  · have HC := Lib.hid (show c.send body = (c, 10) by unfold C.send; rw [if_neg t1, if_neg t2, if_pos (by rw [← hn]; exact t3)])
    clear hn t1 t2
    go_enter Tryz.func8, Tryz.ntmps8
    go_wp2_with fail
    go_quiet (fail)
    go_wp2_with fail
    go_ret
    rw [HC.out]
    exact ⟨_, _, rfl, HB.out.drewN _, HN.out ▸ HO.out.drewN _, fun k hk => .inl hk, (Upd.refl _ _).drewN _⟩
  · have HC := Lib.hid (show c.send body = ({ c with waits := c.waits ++ [body] }, 0) by unfold C.send; rw [if_neg t1, if_neg t2, if_neg (by rw [← hn]; exact t3)])
    clear hn t1 t2
    obtain ⟨i0, hi, hz0, hz1, hz2⟩ := info_parts info_str
    go_enter Tryz.func8, Tryz.ntmps8
    go_wp2_with fail
    go_quiet (fail)
    go_wp2_with first
      | (at_builtin; refine wpList_append_Rd _ rfl (.const (.slice none 0 0)) (.tmp 33) 57 rfl 9 i0 _ 1 16 Tryz.underlying57 hi hz0 hz1 hz2 rfl (by decide) _ 0 [] [] (by simp [Act.eval]) (Own.nil _ _ _) _ n (strs c.waits) (by simp [Act.eval]) (HR.out) (by simp only [maxLen]; omega) (by omega) ?_; intro ao1 cap1 w1 own1 ho1 hin1 hu1; simp only [Nat.zero_add, List.nil_append] at ho1; try simp only [Nat.zero_add]; have HB1 := Lib.hid (Blk.upd (HB.out.drewN _) hu1 (by simp)); have lt1 : b < w1.heap.size := HB1.out.lt; have HO1 := Lib.hid ho1; have HIN1 := Lib.hid (show ∀ k ∈ own1, w.heap.size ≤ k from fun k hk => (hin1 k hk).elim (fun h => by cases h) (fun h => by simpa using h)); have HU1 := Lib.hid (Upd.undrewN hu1); have nb1 : b ∉ own1 := (fun hk => by have := HIN1.out b hk; omega); clear ho1 hin1 hu1)
      | (at_builtin; refine wpList_append_Own _ rfl (.tmp 34) (.tmp 36) 57 rfl 9 i0 _ 1 16 Tryz.underlying57 hi hz0 hz1 hz2 rfl (by decide) (.slice ao1 n cap1) n (strs c.waits) own1 (by simp [Act.eval]) (Own.alloc _ HO1.out) ⟨w1.heap.size, 0, none⟩ 1 1 [.string body] (by simp [Act.eval]) rfl (World.news_of_block (Blk.new _ _ _)) (by simp [Value.oneCell']) (by decide) (by simp only [maxLen]; omega) (by omega) ?_; intro g off cap2 w2 ow2 ho2 hin2 hu2; have HB2 := Lib.hid ((HB1.out.alloc (.cells #[.string body] 9)).upd hu2 nb1); have fz := HB2.out.frozen; have k4 := HB2.out.cell 4; simp [C.rcells] at k4; have HO2 := Lib.hid ho2; have HIN2 := Lib.hid hin2; have HU2 := Lib.hid hu2; clear ho2 hin2 hu2)
    go_ret
    rw [HC.out]
    have h2 : (c.waits ++ [body]).length = n + 1 := by rw [List.length_append, HN.out]; rfl
    have hs1 := HU1.out.size
    refine ⟨_, ow2, rfl, Blk.of_eq (HB2.out.set_ 4 _) rfl, ?_, ?_, ?_⟩
    · have h1 := HO2.out.setCell (p := ⟨b, 4, none⟩) (.slice (some ⟨g, off, none⟩) (n + 1) cap2) (HO2.out.ne_blk HB2.out (by decide))
      simp only [h2]
      simpa [strs] using h1
    · intro k hk
      rcases HIN2.out k hk with h1 | h1
      · exact .inr (HIN1.out k h1)
      · right; simp at h1; omega
    · refine Upd.setCell _ ?_ (by simp)
      refine Upd.trans' (F := [b]) ((HU1.out.mono (by simp)).alloc (.cells #[.string body] 9)) HU2.out ?_
      intro x hx
      exact .inr (HIN1.out x hx)
end Go.Proofs.YtdccmlpikjbcaaaGreat
