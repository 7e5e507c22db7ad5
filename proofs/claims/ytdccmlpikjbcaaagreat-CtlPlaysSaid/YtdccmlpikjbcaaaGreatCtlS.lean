/- The walk of 'Send'. -/
import Derived.Test.YtdccmlpikjbcaaaGreatCtlA
import Derived.Test.YtdccmlpikjbcaaaGreatStr
namespace Go.Proofs.YtdccmlpikjbcaaaGreat
open Go.RowKit
set_option maxRecDepth 100000

theorem info_str : (Tryz.prog.info? 9).map (fun i => (i.zero, i.size, i.bytes)) = some (some (.string ⟨#[]⟩), 1, 16) := by kernel_rfl

theorem C.send_ok {c : C} (h : c.ok) (body : ByteArray) : (c.send body).1.ok := by
  unfold C.send
  obtain ⟨h1, h2, h3, h4, h5, h6, h7, h8, h9, h10, h11, h12, h13, h14, h15, h16, h17, h18, h19, h20, h21, h22, h23, h24, h25, h26⟩ := h
  (repeat' split) <;> constructor <;> (try simp) <;> first | omega | assumption

structure SendEnd (w : World) (b : Nat) (vf : Value) (ow : List Nat) (p : C × Int) (e : Ending) (w' : World) : Prop where
  ex : ∃ vw' ow', e = .returned (.int .i64 p.2) ∧ Blk w' b 81 (p.1.cells vw' vf) ∧ Own w' 9 1 vw' p.1.waits.length (strs p.1.waits) ow' ∧
    (∀ k, k ∈ ow' → k ∈ ow ∨ w.heap.size ≤ k) ∧ Upd (b :: ow) w w'

set_option maxRecDepth 100000 in
set_option maxHeartbeats 1000000 in
theorem send_any (b : Nat) (c : C) (vw vf : Value) (body : ByteArray) (ow : List Nat) (w : World) (hk : c.ok) (hb : Blk w b 81 (c.cells vw vf))
    (ho : Own w 9 1 vw c.waits.length (strs c.waits) ow) :
    Calls Tryz.prog 7 #[.pointer (some ⟨b, 0, none⟩), .string body] w (SendEnd w b vf ow (c.send body)) := by
  have hblt := hb.lt
  have hnb : b ∉ ow := ho.ne_blk hb (by decide)
  have hm := hk.d1
  by_cases t1 : c.dead = true
  · go_enter Tryz.func7, Tryz.ntmps7
    go_wp2_with (go_at_call 22; refine (dead_any b c vw vf _ hb).mono ?_; rintro e w' ⟨rfl, rfl⟩)
    go_ret
    have hc : c.send body = (c, 20) := by unfold C.send; rw [if_pos t1]
    rw [hc]
    exact ⟨_, _, rfl, hb, ho, fun k hk => .inl hk, Upd.refl _ _⟩
  have t1' : c.dead = false := by simpa using t1
  by_cases t2 : body.size = 0 ∨ 1500 < body.size
  · have hc : c.send body = (c, 1) := by unfold C.send; rw [if_neg t1, if_pos t2]
    have HC := Lib.hid hc
    clear hc t1
    rcases t2 with t2 | t2
    · have h0' : body.toList.isEmpty = true := str_empty_t t2
      clear t2
      go_enter Tryz.func7, Tryz.ntmps7
      go_wp2_with (go_at_call 22; refine (dead_any b c vw vf _ hb).mono ?_; rintro e w' ⟨rfl, rfl⟩)
      go_ret
      rw [HC.out]
      exact ⟨_, _, rfl, hb, ho, fun k hk => .inl hk, Upd.refl _ _⟩
    · have h0' : body.toList.isEmpty = false := str_empty_f (by omega)
      go_enter Tryz.func7, Tryz.ntmps7
      go_wp2_with (go_at_call 22; refine (dead_any b c vw vf _ hb).mono ?_; rintro e w' ⟨rfl, rfl⟩)
      go_ret
      rw [HC.out]
      exact ⟨_, _, rfl, hb, ho, fun k hk => .inl hk, Upd.refl _ _⟩
  have h0' : body.toList.isEmpty = false := str_empty_f (by omega)
  have h1' : body.size ≤ 1500 := by omega
  obtain ⟨ao, cap, rfl, hcap, hmx⟩ := ho.shape
  obtain ⟨n, hn⟩ : ∃ n, n = c.waits.length := ⟨_, rfl⟩
  have l1 := hk.l1
  have q2 := hk.q2
  rw [← hn] at hb hcap l1 ho
  have g1 := hb.cell 1
  have g6 := hb.cell 6
  have gf := hb.frozen
  simp [C.cells] at g1 g6
  have HB := Lib.hid hb
  have HN := Lib.hid hn
  have HO := Lib.hid ho
  by_cases t3 : c.queue ≤ n
  · have hc : c.send body = (c, 10) := by unfold C.send; rw [if_neg t1, if_neg t2, if_pos (by rw [← hn]; exact t3)]
    have HC := Lib.hid hc
    clear hc t1 t2 hk hb hn ho
    go_enter Tryz.func7, Tryz.ntmps7
    go_wp2_with (go_at_call 22; refine (dead_any b c _ vf _ HB.out).mono ?_; rintro e w' ⟨rfl, rfl⟩)
    go_quiet (fail)
    go_wp2
    go_ret
    rw [HC.out]
    exact ⟨_, _, rfl, HB.out.drewN _, HN.out ▸ HO.out.drewN _, fun k hk => .inl hk, (Upd.refl _ _).drewN _⟩
  · have hc : c.send body = ({ c with waits := c.waits ++ [body] }, 0) := by unfold C.send; rw [if_neg t1, if_neg t2, if_neg (by rw [← hn]; exact t3)]
    have HC := Lib.hid hc
    clear hc t1 t2 hk hb hn ho
    obtain ⟨i0, hi, hz0, hz1, hz2⟩ := info_parts info_str
    go_enter Tryz.func7, Tryz.ntmps7
    go_wp2_with (go_at_call 22; refine (dead_any b c _ vf _ HB.out).mono ?_; rintro e w' ⟨rfl, rfl⟩)
    go_quiet (fail)
    go_wp2
    go_region_law (first
      | (refine step_append_Own _ rfl (.tmp 31) (.tmp 34) 57 rfl 9 i0 (.string ⟨#[]⟩) 1 16 Tryz.underlying57 hi hz0 hz1 hz2 rfl (by decide) (.slice ao n cap) n (strs c.waits) ow (by simp [Act.eval]) (Own.alloc _ (Own.upd (by exact HO.out) hu (by simp))) ⟨w1.heap.size, 0, none⟩ 1 1 [.string body] (by simp [Act.eval]) rfl (World.news_of_block (Blk.new _ _ _)) (by simp [Value.oneCell']) (by decide) (by simp only [maxLen]; omega) (by omega) ?_; intro g off cap1 w2 ow2 ho2 hin2 hu2; have hk7 := (hu2.cell (p := ⟨b, 6, none⟩) (by have := hu.size; simp at this ⊢; omega) hnb); have hf7 := (hu2.frozen (p := ⟨b, 6, none⟩) (by have := hu.size; simp at this ⊢; omega) hnb); have hk8 := ((Blk.upd (by exact HB.out) hu (by simp)).alloc (.cells #[.string body] 9)).cell 6; have hf8 := ((Blk.upd (by exact HB.out) hu (by simp)).alloc (.cells #[.string body] 9)).frozen 6; simp [C.cells] at hk8; have hk9 := hk7.trans hk8; have hf9 := hf7.trans hf8; clear hk7 hk8 hf7 hf8)
      | (go_simp; go_at_call 29; refine (clone_any _ _ (by omega)).mono ?_; rintro e w1 ⟨rfl, hu⟩; have hk6 := (hu.cell (p := ⟨b, 6, none⟩) (by simpa using hblt) (by simp)).trans (by simpa using g6); have hb1 : b < w1.heap.size := by have := hu.size; simp at this; omega))
    all_goals
      go_wp2
      go_ret
      have B1 := (Blk.upd (by exact HB.out) hu (by simp)).alloc (.cells #[.string body] 9)
      have B2 := B1.upd hu2 hnb
      have hsz := hu.size
      simp at hsz
      rw [HC.out]
      refine ⟨_, ow2, rfl, Blk.of_eq (B2.set_ 6 _) rfl, ?_, ?_, ?_⟩
      · have h1 := ho2.setCell (p := ⟨b, 6, none⟩) (.slice (some ⟨g, off, none⟩) (n + 1) cap1) (ho2.ne_blk B2 (by decide))
        have h2 : (c.waits ++ [body]).length = n + 1 := by rw [List.length_append, HN.out]; rfl
        simp only [h2]
        simpa [strs] using h1
      · intro k hk
        rcases hin2 k hk with h1 | h1
        · exact .inl h1
        · right; simp at h1; omega
      · refine Upd.setCell _ ?_ (by simp)
        refine Upd.trans' (F := b :: ow) ((Upd.mono (F := []) (Upd.undrewN hu) (by simp)).alloc (.cells #[.string body] 9)) hu2 ?_
        intro x hx; left; simp [hx]
end Go.Proofs.YtdccmlpikjbcaaaGreat
