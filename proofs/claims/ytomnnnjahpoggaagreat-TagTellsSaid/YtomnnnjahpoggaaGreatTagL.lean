/- The walk of the tags' first call (alive). -/
import Derived.Test.YtomnnnjahpoggaaGreatTagE
namespace Go.Proofs.YtomnnnjahpoggaaGreat
open Go.RowKit
set_option maxRecDepth 100000
set_option linter.unusedSimpArgs false

theorem TgsAt.of_blk {w : World} {g : Nat} {t : TypeId} {l : List Tg} (h : Blk w g t (tgCells l).toArray) (hl : l.length ≤ maxLen) : TgsAt w (.slice (some ⟨g, 0, none⟩) l.length l.length) l := by
  refine ⟨_, _, rfl, Nat.le_refl _, hl, fun i x hx => ?_⟩
  obtain ⟨k1, k2⟩ := tgCells_get l i hx
  refine ⟨_, rfl, ?_, ?_⟩
  · rw [add_plain, h.cell, Nat.zero_add]; simpa using k1
  · rw [add_plain]
    show w.cell? ⟨g, 0 + i * 2 + 1, none⟩ = _
    rw [h.cell, Nat.zero_add]; simpa using k2

def aliveB : ByteArray := ⟨#[17, 9, 0, 0, 0, 4, 1, 1, 0, 0]⟩
def aliveT : ByteArray := ⟨#[1, 1, 0, 0]⟩
def filling : ByteArray := ⟨#[102, 105, 108, 108, 105, 110, 103]⟩
theorem alive_put : putTgs [⟨257, ⟨#[]⟩⟩] = (aliveT, 0) := by decide +kernel
theorem alive_disc : Dc.put ⟨9, 0, aliveT⟩ = (aliveB, 0) := by decide +kernel
theorem alive_get : Dc.get (aliveB ++ filling) = (⟨9, 0, aliveT⟩, 0) := by decide +kernel

set_option maxHeartbeats 1000000 in
theorem alive_any (w : World) : Calls Tryz.prog 5 #[] w fun e w' => e = .returned (.bool true) ∧ Upd [] w w' := by
  go_enter Tryz.func5, Tryz.ntmps5
  go_wp2_with fail
  have h0 : TgsAt (w.alloc (.cells #[.int .i64 257, .string ⟨#[]⟩] 63)) (.slice (some ⟨w.heap.size, 0, none⟩) 1 1) [⟨257, ⟨#[]⟩⟩] := TgsAt.of_blk (l := [⟨257, ⟨#[]⟩⟩]) (Blk.new _ _ _) (by decide)
  refine (putTags_any [⟨257, ⟨#[]⟩⟩] _ _ h0 (by decide)).mono ?_
  rintro e w1 ⟨rfl, hu1⟩
  rw [alive_put]
  have HU1 := Lib.hid (((Upd.refl [] w).alloc _).trans hu1)
  clear hu1 h0
  go_wp2_with fail
  refine (put_any ⟨9, 0, aliveT⟩ (by decide) _).mono ?_
  rintro e w2 ⟨rfl, hu2⟩
  rw [alive_disc]
  have HU2 := Lib.hid (HU1.out.trans hu2)
  clear hu2 HU1
  have hs := run_string_add_sum (P := Tryz.prog) w2 aliveB ⟨#[102, 105, 108, 108, 105, 110, 103]⟩ (by decide)
  go_wp2_with fail
  refine (get_any (aliveB ++ filling) (by decide) _).mono ?_
  rintro e w3 ⟨rfl, hu3⟩
  rw [alive_get]
  simp only [Dc.val]
  have HU3 := Lib.hid (HU2.out.trans hu3)
  clear hu3 HU2 hs
  have ha : aliveB.toList = [17, 9, 0, 0, 0, 4, 1, 1, 0, 0] := by decide +kernel
  go_wp2_with fail
  go_ret
  exact ⟨rfl, HU3.out.alloc _⟩
end Go.Proofs.YtomnnnjahpoggaaGreat
