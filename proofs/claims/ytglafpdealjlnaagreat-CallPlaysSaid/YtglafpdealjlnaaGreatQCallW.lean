/- With and Got of an end of a call. -/
import Derived.Test.YtglafpdealjlnaaGreatQCallH
namespace Go.Proofs.YtglafpdealjlnaaGreat
open Go.RowKit
set_option linter.unusedSimpArgs false
set_option linter.unusedVariables false
set_option maxRecDepth 100000

set_option maxHeartbeats 2000000 in
theorem with_off (X : List Nat) (b : Nat) (k : K) (l : List Av) (v : Value) (w : World) (h0 : CallOff X w b k) (hX : ∀ x ∈ X, x < w.heap.size) (hm : k.made = true) (hl : AvsAt w v l) (hlen : l.length ≤ 1000000) :
    Calls Tryz.prog 39 #[.pointer (some ⟨b, 0, none⟩), v] w fun e w' => e = .returned (.tuple #[]) ∧ CallOff X w' b { k with with_ := l } ∧ Upd [b] w w' := by
  have h := h0.at_
  have HF := Lib.hid h0
  have HX := Lib.hid hX
  obtain ⟨nl, hnl⟩ : ∃ n, n = l.length := ⟨_, rfl⟩
  have HNL := Lib.hid hnl
  have HLEN := Lib.hid hlen
  have HC := Lib.hid h
  have HL := Lib.hid hl
  obtain ⟨ao, c, rfl, -⟩ := hl
  rw [← hnl] at HL
  rw [← hnl]
  clear h hlen hnl h0 hX
  go_enter Tryz.func39, Tryz.ntmps39
  go_wp2_with fail
  refine (none_any b k w HC.out).mono ?_
  rintro e w1 ⟨rfl, rfl⟩
  rw [hm]
  simp only [Bool.not_true]
  go_wp2_with fail
  refine (cloneAvs_any l _ _ HL.out HLEN.out).mono ?_
  rintro e w3 ⟨u, ou, rfl, ho, hf, hu3⟩
  have HO := Lib.hid ho
  obtain ⟨ao3, cap3, rfl, -, -⟩ := ho.shape
  rw [← HNL.out] at HO
  rw [← HNL.out]
  have HK3 := Lib.hid (HF.out.upd hu3 (by simp) (by simp))
  have HU3 : Hid (Upd [b] w w3) := hu3.mono (by simp)
  obtain ⟨vw3, vg3, ow3, og3, hb3, how3, hog3, hoff⟩ := HK3.out
  have HOF : Hid (∀ x ∈ ou ++ og3, x ∉ X) := fun x hx hx2 => by
    rcases List.mem_append.1 hx with hx | hx
    · have := hf x hx; have := HX.out x hx2; omega
    · exact hoff x (by simp [hx]) hx2
  have g6 := hb3.cell 6
  have f6 := hb3.frozen 6
  have lt3 := hb3.lt
  simp [K.cells] at g6
  have HX3 := Lib.hid (And.intro hb3 hog3)
  clear hb3 how3 hog3 ho hf hu3 hoff
  go_wp2_with fail
  go_end0
  refine ⟨rfl, ⟨.slice ao3 nl cap3, vg3, ou, og3, Blk.of_eq (HX3.out.1.set_ 6 _) rfl, ?_, HX3.out.2.setCell _ (HX3.out.2.ne_blk HX3.out.1 (by decide)), HOF.out⟩, HU3.out.setCell _ (.inl (by simp))⟩
  have h := HO.out.setCell (p := ⟨b, 6, none⟩) (.slice ao3 nl cap3) (HO.out.ne_blk HX3.out.1 (by decide))
  rw [HNL.out] at h
  rw [HNL.out]
  exact h
theorem with_any (b : Nat) (k : K) (l : List Av) (v : Value) (w : World) (h : CallAt w b k) (hm : k.made = true) (hl : AvsAt w v l) (hlen : l.length ≤ 1000000) :
    Calls Tryz.prog 39 #[.pointer (some ⟨b, 0, none⟩), v] w fun e w' => e = .returned (.tuple #[]) ∧ CallAt w' b { k with with_ := l } ∧ Upd [b] w w' :=
  (with_off [] b k l v w h.offN (by simp) hm hl hlen).mono fun e w' ⟨h1, h2, h3⟩ => ⟨h1, h2.at_, h3⟩
set_option maxHeartbeats 2000000 in
theorem got_any (b : Nat) (k : K) (w : World) (h : CallAt w b k) (hm : k.made = true) (hlen : k.got.length ≤ 1000000) :
    Calls Tryz.prog 50 #[.pointer (some ⟨b, 0, none⟩)] w fun e w' => ∃ u own, e = .returned u ∧ Own w' 85 5 u k.got.length (avCells k.got) own ∧ Upd [] w w' ∧ ∀ x ∈ own, w.heap.size ≤ x := by
  have HC := Lib.hid h
  obtain ⟨vw, vg, ow, og, hb, how, hog⟩ := id h
  have HL := Lib.hid (AvsAt.of_own hog)
  obtain ⟨nl, hnl⟩ : ∃ n, n = k.got.length := ⟨_, rfl⟩
  have HNL := Lib.hid hnl
  have HLEN := Lib.hid hlen
  obtain ⟨ao, c, rfl, -, -⟩ := hog.shape
  have g7 := hb.cell 7
  simp [K.cells] at g7
  rw [← hnl] at HL g7
  have lt3 := hb.lt
  clear h hb how hog hlen hnl
  go_enter Tryz.func50, Tryz.ntmps50
  go_wp2_with fail
  refine (none_any b k w HC.out).mono ?_
  rintro e w1 ⟨rfl, rfl⟩
  rw [hm]
  simp only [Bool.not_true]
  go_wp2_with fail
  refine (cloneAvs_any k.got _ _ HL.out HLEN.out).mono ?_
  rintro e w3 ⟨u, ou, rfl, ho, hf, hu3⟩
  have HO := Lib.hid (And.intro ho hu3)
  have HF := Lib.hid hf
  obtain ⟨ao3, cap3, rfl, -, -⟩ := ho.shape
  rw [← HNL.out]
  clear ho hf hu3
  go_wp2_with fail
  go_ret
  rw [HNL.out]
  exact ⟨_, ou, rfl, HO.out.1, HO.out.2, HF.out⟩
end Go.Proofs.YtglafpdealjlnaaGreat
