/- The walk of what Out calls: 'say'. -/
import Derived.Test.YtdccmlpikjbcaaaGreatCtlA
import Derived.Test.YtdccmlpikjbcaaaGreatCtlB
namespace Go.Proofs.YtdccmlpikjbcaaaGreat
open Go.RowKit
set_option maxRecDepth 100000

theorem info_item : (Tryz.prog.info? 53).map (fun i => (i.zero, i.size, i.bytes)) = some (some (.agg #[.int .i64 0, .int .i64 0, .string ⟨#[]⟩]), 3, 32) := by kernel_rfl

def items (l : List Item) : List Value := l.flatMap Item.cells
theorem items_length (l : List Item) : (items l).length = l.length * 3 := by
  induction l with
  | nil => rfl
  | cons i l ih => simp only [items, List.flatMap_cons, List.length_append, List.length_cons] at *; rw [ih]; simp [Item.cells]; omega
theorem items_snoc (l : List Item) (i : Item) : items (l ++ [i]) = items l ++ i.cells := by simp [items]

structure SayEnd (w : World) (B1 : Nat) (oo : List Nat) (l : List Item) (e : Ending) (w' : World) : Prop where
  ex : ∃ vo' oo', e = .returned (.tuple #[]) ∧ Blk w' B1 65 #[vo'] ∧ Own w' 53 3 vo' l.length (items l) oo' ∧
    (∀ k, k ∈ oo' → k ∈ oo ∨ w.heap.size ≤ k) ∧ Upd (B1 :: oo) w w'

set_option maxHeartbeats 1000000 in
theorem say_any (b B0 B1 : Nat) (c : C) (vw vf vo : Value) (l : List Item) (oo : List Nat) (ns : Int) (body : ByteArray) (w : World)
    (h1 : 0 ≤ ns ∧ ns < 65536) (h2 : 0 ≤ c.came ∧ c.came < 65536) (hl : l.length ≤ 1000)
    (h0 : Blk w B0 24 #[.pointer (some ⟨b, 0, none⟩)]) (hb1 : Blk w B1 65 #[vo]) (hb : Blk w b 81 (c.cells vw vf))
    (ho : Own w 53 3 vo l.length (items l) oo) :
    Calls Tryz.prog 37 #[.int .u16 ns, .string body, .pointer (some ⟨B1, 0, none⟩), .pointer (some ⟨B0, 0, none⟩)] w (SayEnd w B1 oo (l ++ [⟨ns, c.came, body⟩])) := by
  obtain ⟨ao, cap, rfl, hcap, hmx⟩ := ho.shape
  obtain ⟨n, hn⟩ : ∃ n, n = l.length := ⟨_, rfl⟩
  rw [← hn] at hb1 hcap ho hl
  have hnb : B1 ∉ oo := ho.ne_blk hb1 (by decide)
  have g0 := h0.cell 0
  have g1 := hb1.cell 0
  have g1f := hb1.frozen 0
  have g5 := hb.cell 5
  have lt1 := hb1.lt
  simp [C.cells] at g0 g1 g5
  have lt0 := h0.lt
  have ltb := hb.lt
  have HB1 := Lib.hid hb1
  have HO := Lib.hid ho
  have HN := Lib.hid hn
  clear h0 hb1 hb ho hn
  obtain ⟨i0, hi, hz0, hz1, hz2⟩ := info_parts info_item
  have hw1 : IntKind.i64.wrap ns = ns := IntWalk.i64_in _ (by omega)
  have hw2 : IntKind.i64.wrap c.came = c.came := IntWalk.i64_in _ (by omega)
  go_enter Tryz.func37, Tryz.ntmps37
  go_wp2
  go_region_law (refine step_append_Own _ rfl (.tmp 6) (.tmp 16) 65 rfl 53 i0 _ 3 32 Tryz.underlying65 hi hz0 hz1 hz2 rfl (by decide) (.slice ao n cap) n (items l) oo (by simp [Act.eval]) (Own.alloc _ (by exact HO.out)) ⟨w.heap.size, 0, none⟩ 1 1 [.int .i64 ns, .int .i64 c.came, .string body] (by simp [Act.eval]) rfl (World.news_of_block (Blk.new _ _ _)) (by simp [Value.oneCell']) (by decide) (by simp only [maxLen]; omega) (by omega) ?_; intro g off cap1 w2 ow2 ho2 hin2 hu2; have hk7 := (hu2.cell (p := ⟨B1, 0, none⟩) (by simp; omega) hnb); have hf7 := (hu2.frozen (p := ⟨B1, 0, none⟩) (by simp; omega) hnb); have hk8 := (Blk.alloc (.cells #[.int .i64 ns, .int .i64 c.came, .string body] 53) HB1.out).cell 0; have hf8 := (Blk.alloc (.cells #[.int .i64 ns, .int .i64 c.came, .string body] 53) HB1.out).frozen 0; simp at hk8; have hk9 := hk7.trans hk8; have hf9 := hf7.trans hf8; clear hk7 hk8 hf7 hf8)
  all_goals
    go_wp2
    go_end0
    have B2 := (HB1.out.alloc (.cells #[.int .i64 ns, .int .i64 c.came, .string body] 53)).upd (Upd.undrew hu2) hnb
    refine ⟨_, ow2, rfl, Blk.of_eq (B2.set_ 0 _) rfl, ?_, ?_, ?_⟩
    · have h1 := ho2.setCell (p := ⟨B1, 0, none⟩) (.slice (some ⟨g, off, none⟩) (n + 1) cap1) (ho2.ne_blk B2 (by decide))
      have h2 : (l ++ [⟨ns, c.came, body⟩] : List Item).length = n + 1 := by rw [List.length_append, HN.out]; rfl
      simp only [h2, items_snoc]
      exact h1
    · intro k hk
      rcases hin2 k hk with h1 | h1
      · exact .inl h1
      · right; simp at h1; omega
    · refine Upd.setCell _ ?_ (by simp)
      refine Upd.trans' (F := B1 :: oo) ((Upd.refl _ _).alloc (.cells #[.int .i64 ns, .int .i64 c.came, .string body] 53)) (Upd.undrew hu2) ?_
      intro x hx; left; simp [hx]
end Go.Proofs.YtdccmlpikjbcaaaGreat
