/- The walk of tag.GetTags. -/
import Derived.Test.YtomnnnjahpoggaaGreatTagD
namespace Go.Proofs.YtomnnnjahpoggaaGreat
open Go.RowKit
set_option maxRecDepth 100000
set_option linter.unusedSimpArgs false

/-- What tags' bytes tell, in m rounds at most. -/
def getFrom : Nat → ByteArray → List Tg → List Tg × Int
  | 0, _, out => (out, 0)
  | m + 1, b, out =>
    if b.size = 0 then (out, 0) else if b.size < 2 then ([], 5) else if num b 0 2 = 0 then (out, 0) else if b.size < 4 ∨ (b.size : Int) - 4 < num b 2 2 then ([], 5)
    else if 20 ≤ out.length then ([], 2) else getFrom m (b.extract (4 + (num b 2 2).toNat) b.size) (out ++ [⟨num b 0 2, b.extract 4 (4 + (num b 2 2).toNat)⟩])
def getTgs (b : ByteArray) : List Tg × Int := getFrom b.size b []
theorem getFrom_zero (m : Nat) (b : ByteArray) (out : List Tg) (h : b.size = 0) : getFrom m b out = (out, 0) := by
  cases m with
  | zero => rfl
  | succ m => rw [getFrom, if_pos h]
theorem getFrom_step (m : Nat) (b : ByteArray) (out : List Tg) (h0 : b.size ≤ m) (h : b.size ≠ 0) : getFrom m b out =
    if b.size < 2 then ([], 5) else if num b 0 2 = 0 then (out, 0) else if b.size < 4 ∨ (b.size : Int) - 4 < num b 2 2 then ([], 5)
    else if 20 ≤ out.length then ([], 2) else getFrom (m - 1) (b.extract (4 + (num b 2 2).toNat) b.size) (out ++ [⟨num b 0 2, b.extract 4 (4 + (num b 2 2).toNat)⟩]) := by
  cases m with
  | zero => omega
  | succ m => rw [getFrom, if_neg h]; rfl

/-- The call gives tags and an error. -/
def GivesTgs (r : List Tg × Int) (w : World) (e : Ending) (w' : World) : Prop := ∃ v, e = .returned (.tuple #[v, .int .i64 r.2]) ∧ TgsAt w' v r.1 ∧ Upd [] w w'

theorem info_tag : (Tryz.prog.info? 63).map (fun i => (i.zero, i.size, i.bytes)) = some (some (.agg #[.int .i64 0, .string ⟨#[]⟩]), 2, 24) := by kernel_rfl
theorem tgCells_snoc (l : List Tg) (t : Tg) : tgCells (l ++ [t]) = tgCells l ++ [.int .i64 t.k, .string t.s] := by simp [tgCells]

/-- The same, and what it gives is its own. -/
def GivesTgsO (r : List Tg × Int) (w : World) (e : Ending) (w' : World) : Prop := ∃ v own, e = .returned (.tuple #[v, .int .i64 r.2]) ∧ Own w' 63 2 v r.1.length (tgCells r.1) own ∧ (∀ k ∈ own, w.heap.size ≤ k) ∧ Upd [] w w'

set_option maxHeartbeats 4000000 in
theorem getTags_own (b : ByteArray) (hb : b.size ≤ 140737488355328) (w : World) :
    Calls Tryz.prog 13 #[.string b] w (GivesTgsO (getTgs b) w) := by
  obtain ⟨i0, hi, hz0, hz1, hz2⟩ := info_parts info_tag
  go_enter Tryz.func13, Tryz.ntmps13
  go_wp2
  go_loopg [0, 4, 5, 6, 7] b.size (fun m s0 s4 s5 s6 s7 wr => ∃ (M : Nat) (s : ByteArray) (out : List Tg) (ao : Option Addr) (cap : Nat) (own : List Nat), m = M ∧ s0 = .string s ∧ s4 = .slice ao out.length cap ∧ s.size ≤ M ∧ s.size ≤ b.size ∧ out.length ≤ 20 ∧
    Own wr 63 2 (.slice ao out.length cap) out.length (tgCells out) own ∧ (∀ k, k ∈ own → w.heap.size ≤ k) ∧ getFrom M s out = getTgs b ∧ Upd [] w wr)
  case atStart => exact ⟨b.size, b, [], none, 0, [], rfl, rfl, rfl, Nat.le_refl _, Nat.le_refl _, by simp, Own.nil _ _ _, by simp, rfl, Upd.refl _ _⟩
  case round =>
    obtain ⟨M, s, out, ao, cap, own, hM, rfl, rfl, hm, hsb, ho, hown, hin, hg, hu⟩ := hrel
    obtain ⟨n, hn⟩ : ∃ n, n = out.length := ⟨_, rfl⟩
    have HN := Lib.hid hn
    have HMM := Lib.hid hM
    clear hM
    have HM : Hid (s.size ≤ maxLen) := by show _ ≤ _; simp only [maxLen]; omega
    by_cases t0 : s.size = 0
    · rw [getFrom_zero M s out t0] at hg
      have HG := Lib.hid hg
      have e0 := str_empty_t t0
      have HO := Lib.hid hown
      have T0 := Lib.hid t0
      clear hg hown t0 hn
      go_wp2
      go_ret2
      rw [← HG.out]
      exact ⟨_, own, rfl, HO.out, hin, hu⟩
    rw [getFrom_step M s out hm t0] at hg
    have e0 := str_empty_f t0
    by_cases t1 : s.size < 2
    · rw [if_pos t1] at hg
      have HG := Lib.hid hg
      have HO := Lib.hid hown
      clear hg hown hn
      go_wp2_with fail
      refine (wireGet_bad s 0 2 (by omega) (by omega) _).mono ?_
      rintro e w' ⟨rfl, rfl⟩
      go_wp2
      go_ret2
      rw [← HG.out]
      exact ⟨_, [], rfl, Own.nil _ _ _, by simp, hu⟩
    rw [if_neg t1] at hg
    by_cases t2 : num s 0 2 = 0
    · rw [if_pos t2] at hg
      have HG := Lib.hid hg
      have HO := Lib.hid hown
      have t2' : (num s 0 2 == 0) = true := by simpa using t2
      clear hg hown hn t2
      go_wp2_with fail
      refine (wireGet_ok s 0 2 (by omega) HM.out (by omega) _).mono ?_
      rintro e w' ⟨rfl, rfl⟩
      go_wp2
      go_ret2
      rw [← HG.out]
      exact ⟨_, own, rfl, HO.out, hin, hu⟩
    rw [if_neg t2] at hg
    have t2' : (num s 0 2 == 0) = false := by simpa using t2
    have hN := num_bd s 2 2
    by_cases t3 : s.size < 4
    · rw [if_pos (.inl t3)] at hg
      have HG := Lib.hid hg
      have HO := Lib.hid hown
      clear hg hown hn t2
      go_wp2_with fail
      refine (wireGet_ok s 0 2 (by omega) HM.out (by omega) _).mono ?_
      rintro e w' ⟨rfl, rfl⟩
      go_wp2_with fail
      refine (wireGet_bad s 2 2 (by omega) (by omega) _).mono ?_
      rintro e w' ⟨rfl, rfl⟩
      go_wp2
      go_ret2
      rw [← HG.out]
      exact ⟨_, [], rfl, Own.nil _ _ _, by simp, hu⟩
    by_cases t4 : (s.size : Int) - 4 < num s 2 2
    · rw [if_pos (.inr t4)] at hg
      have HG := Lib.hid hg
      have HO := Lib.hid hown
      clear hg hown hn t2
      go_wp2_with fail
      refine (wireGet_ok s 0 2 (by omega) HM.out (by omega) _).mono ?_
      rintro e w' ⟨rfl, rfl⟩
      go_wp2_with fail
      refine (wireGet_ok s 2 2 (by omega) HM.out (by omega) _).mono ?_
      rintro e w' ⟨rfl, rfl⟩
      go_wp2
      go_ret2
      rw [← HG.out]
      exact ⟨_, [], rfl, Own.nil _ _ _, by simp, hu⟩
    rw [if_neg (by omega)] at hg
    by_cases t5 : 20 ≤ out.length
    · rw [if_pos t5] at hg
      have HG := Lib.hid hg
      have HO := Lib.hid hown
      have t5' : (20 : Int) ≤ n := by omega
      rw [← hn]
      clear hg hown hn t2
      go_wp2_with fail
      refine (wireGet_ok s 0 2 (by omega) HM.out (by omega) _).mono ?_
      rintro e w' ⟨rfl, rfl⟩
      go_wp2_with fail
      refine (wireGet_ok s 2 2 (by omega) HM.out (by omega) _).mono ?_
      rintro e w' ⟨rfl, rfl⟩
      go_wp2
      go_ret2
      rw [← HG.out]
      exact ⟨_, [], rfl, Own.nil _ _ _, by simp, hu⟩
    rw [if_neg t5] at hg
    obtain ⟨j, hj⟩ : ∃ j : Nat, num s 2 2 = j := Int.eq_ofNat_of_zero_le hN.1
    have t5' : ¬ (20 : Int) ≤ n := by omega
    have hjz : (num s 2 2).toNat = j := by omega
    rw [hjz] at hg
    rw [hj] at t4 hN
    have HJ := Lib.hid hj
    have HG := Lib.hid hg
    have HO := Lib.hid (hn ▸ hown)
    have hjb : (j : Int) ≤ s.size - 4 := by omega
    have hjc : j < 65536 := by omega
    rw [← hn]
    clear hg hown hn t2 hj hjz hN t4 t5
    go_wp2_with fail
    refine (wireGet_ok s 0 2 (by omega) HM.out (by omega) _).mono ?_
    rintro e w' ⟨rfl, rfl⟩
    go_wp2_with fail
    refine (wireGet_ok s 2 2 (by omega) HM.out (by omega) _).mono ?_
    rintro e w' ⟨rfl, rfl⟩
    rw [HJ.out]
    go_wp2_with fail
    refine (clone_any (s.extract 4 (4 + j)) _ (by rw [ByteArray.size_extract]; omega)).mono ?_
    rintro e w1 ⟨rfl, hu1⟩
    have HO1 := Lib.hid (HO.out.upd hu1 (by simp))
    have HU1 := Lib.hid (hu.trans hu1)
    have hz : wr.heap.size ≤ w1.heap.size := hu1.size
    have hwz : w.heap.size ≤ wr.heap.size := hu.size
    have HIN := Lib.hid hin
    clear HO hu hu1 hin
    go_wp2_with (at_builtin; refine wpList_append_Own _ rfl (.tmp 37) (.tmp 45) 24 rfl 63 i0 _ 2 24 Tryz.underlying24 hi hz0 hz1 hz2 rfl (by decide) (.slice ao n cap) n (tgCells out) own (by simp [Act.eval]) (Own.alloc _ HO1.out) ⟨w1.heap.size, 0, none⟩ 1 1 [.int .i64 (num s 0 2), .string (s.extract 4 (4 + j))] (by simp [Act.eval]) rfl (World.news_of_block (Blk.new _ _ _)) (by simp [Value.oneCell']) (by decide) (by simp only [maxLen]; omega) (by omega) ?_; intro g off cap1 w2 ow2 ho2 hin2 hu2; have HO2 := Lib.hid ho2; have HIN2 := Lib.hid hin2; have HU2 := Lib.hid hu2; clear ho2 hin2 hu2)
    go_roundg (M - 1)
    case rel =>
      have hin3 : ∀ k, k ∈ ow2 → w.heap.size ≤ k := fun k hk => by
        rcases HIN2.out k hk with h | h
        · exact HIN.out k h
        · simp at h; omega
      refine ⟨M - 1, s.extract (4 + j) s.size, out ++ [⟨num s 0 2, s.extract 4 (4 + j)⟩], some ⟨g, off, none⟩, cap1, ow2, rfl, rfl, by rw [List.length_append, List.length_singleton, ← HN.out], by rw [ByteArray.size_extract]; omega, by rw [ByteArray.size_extract]; omega, by rw [List.length_append, List.length_singleton, ← HN.out]; omega, ?_, hin3, HG.out, ?_⟩
      · rw [List.length_append, List.length_singleton, ← HN.out, tgCells_snoc]; exact HO2.out
      · exact (HU1.out.alloc _).trans' HU2.out (fun x hx => .inr (HIN.out x hx))
    case measure => have := HMM.out; omega
theorem getTags_any (b : ByteArray) (hb : b.size ≤ 140737488355328) (w : World) :
    Calls Tryz.prog 13 #[.string b] w (GivesTgs (getTgs b) w) :=
  (getTags_own b hb w).mono fun _ _ ⟨v, _, he, ho, _, hu⟩ => ⟨v, he, TgsAt.of_own ho, hu⟩
end Go.Proofs.YtomnnnjahpoggaaGreat
