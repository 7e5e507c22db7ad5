/- Values (Avp) as they came in. -/
import Derived.Test.YtcplhlokbnaabaaProg
import Derived.Test.YtcplhlokbnaabaaWeigh
import Derived.Test.YtcplhlokbnaabaaAvs
namespace Go.Proofs.Ytcplhlokbnaabaa
open Go.RowKit Go.ChangeShapes Go.WideShapes
set_option maxRecDepth 20000

theorem avs_core {H : Type} {enc : TypeId × Value → H} {W : World} {a : Option Addr} {len cap : Nat} {d : DataW H} {p : List MemPlace}
    (h : DataW.Trod enc Try.prog W 0 (fun _ => true) true 25 (.slice a len cap) d p) (hw : Wt Try.prog 25 d) :
    ∃ l, AvsAt W (.slice a len cap) l ∧ ∀ t ∈ l, t.val.size ≤ 140737488355328 := by
  rcases slice_came_wt Try.underlying25 h hw with ⟨rfl, rfl, rfl⟩ | ⟨q, rfl, hl, hm, hel⟩
  · exact ⟨[], AvsAt.nil _, by simp⟩
  have hn : Try.prog.cellsOf 27 = 5 := by kernel_rfl
  rw [hn] at hel
  obtain ⟨l, hll, hp⟩ := choose_list (p := fun i (t : Av) => AvAt W (q.add (i * 5)) t ∧ t.val.size ≤ 140737488355328) (fun i hi => by
    obtain ⟨cs, n, x, hc, ht, hwx⟩ := hel i hi
    obtain ⟨mu, h0⟩ := field_bool 0 Try.underlying27 ht rfl Try.underlying4 (by kernel_rfl)
    obtain ⟨hi, h1⟩ := field_bool 1 Try.underlying27 ht rfl Try.underlying4 (by kernel_rfl)
    obtain ⟨ve, h2, _⟩ := field_int 2 Try.underlying27 ht rfl Try.underlying3 (by kernel_rfl)
    obtain ⟨k, h3, _⟩ := field_int 3 Try.underlying27 ht rfl Try.underlying3 (by kernel_rfl)
    obtain ⟨s, h4, hsz⟩ := field_string_wt 4 Try.underlying27 ht hwx rfl Try.underlying9 (by kernel_rfl)
    have c0 := cell_of_cells hc 0 (by omega)
    have c1 := cell_of_cells hc 1 (by omega)
    have c2 := cell_of_cells hc 2 (by omega)
    have c3 := cell_of_cells hc 3 (by omega)
    have c4 := cell_of_cells hc 4 (by omega)
    exact ⟨⟨mu, hi, ve, k, s⟩, ⟨c0.trans h0, c1.trans h1, c2.trans h2, c3.trans h3, c4.trans h4⟩, Nat.le_trans hsz reach_le⟩)
  refine ⟨l, ⟨some q, cap, by rw [hll], by omega, hm, fun i t ht => ?_⟩, fun t ht => ?_⟩
  · exact ⟨q, rfl, (hp i t ht).1⟩
  · obtain ⟨i, hi⟩ := List.mem_iff_getElem?.1 ht
    exact (hp i t hi).2
theorem avs_in {H : Type} {enc : TypeId × Value → H} {W : World} {v : Value} {d : DataW H} {p : List MemPlace} {base : Nat}
    (h : DataW.Trod enc Try.prog W 0 (fun _ => true) true 25 v d p) (o : Value.okWide Try.prog W .any base 25 v) (hw : Wt Try.prog 25 d) :
    ∃ l, AvsAt W v l ∧ ∀ t ∈ l, t.val.size ≤ 140737488355328 := by
  obtain ⟨a, len, cap, rfl⟩ := okWide_slice Try.underlying25 o
  exact avs_core h hw
end Go.Proofs.Ytcplhlokbnaabaa
