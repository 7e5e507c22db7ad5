/- The walk of avp.Get. -/
import Derived.Test.YtglafpdealjlnaaGreatQAvpG
import Derived.Test.YtglafpdealjlnaaGreatQRely
namespace Go.Proofs.YtglafpdealjlnaaGreat
open Go.RowKit
set_option linter.unusedSimpArgs false
set_option linter.unusedVariables false
set_option maxRecDepth 100000

theorem info_av : (Tryz.prog.info? 85).map (fun i => (i.zero, i.size, i.bytes)) = some (some (.agg #[.bool false, .bool false, .int .i64 0, .int .i64 0, .string ⟨#[]⟩]), 5, 40) := by kernel_rfl

def getFromA (secret : ByteArray) : Nat → ByteArray → List Av → List Av × Int
  | 0, _, out => (out, 0)
  | f + 1, b, out => if b.size = 0 then (out, 0) else
    if (oneA b secret out).2.2 ≠ 0 then ([], (oneA b secret out).2.2)
    else getFromA secret f (b.extract (oneA b secret out).2.1 b.size) (out ++ [(oneA b secret out).1])
def getA (b secret : ByteArray) : List Av × Int := getFromA secret b.size b []
theorem oneA_ok {b secret : ByteArray} {l : List Av} (h : (oneA b secret l).2.2 = 0) : 6 ≤ (oneA b secret l).2.1 ∧ (oneA b secret l).2.1 ≤ b.size ∧ l.length < 40 ∧ (oneA b secret l).1.val.size ≤ b.size := by
  unfold oneA at h ⊢
  by_cases t1 : b.size < 6
  · rw [if_pos t1] at h; cases h
  rw [if_neg t1] at h ⊢
  dsimp only at h ⊢
  generalize (num b 0 2).toNat = m at h ⊢
  by_cases t2 : m / 1024 % 16 ≠ 0 ∨ m % 1024 < 6
  · rw [if_pos t2] at h; cases h
  rw [if_neg t2] at h ⊢
  by_cases t3 : b.size < m % 1024
  · rw [if_pos t3] at h; cases h
  rw [if_neg t3] at h ⊢
  by_cases t4 : (if m / 16384 % 2 = 1 then 1008 else 1006) < m % 1024 ∨ 40 ≤ l.length
  · rw [if_pos t4] at h; cases h
  rw [if_neg t4] at h ⊢
  have h40 : l.length < 40 := by
    rcases Nat.lt_or_ge l.length 40 with h | h
    · exact h
    · exact absurd (.inr h) t4
  have h6 : ¬ m % 1024 < 6 := fun h => t2 (.inr h)
  have hx : (b.extract 6 (m % 1024)).size ≤ b.size := by rw [ByteArray.size_extract]; omega
  generalize b.extract 6 (m % 1024) = x at h hx ⊢
  by_cases t5 : m / 16384 % 2 = 1
  · rw [if_pos t5] at h ⊢
    by_cases t6 : (shownA (num b 4 2) x secret l).2 ≠ 0
    · rw [if_pos t6] at h; exact absurd h t6
    · rw [if_neg t6]
      refine ⟨by dsimp only; omega, by dsimp only; omega, h40, ?_⟩
      show (shownA (num b 4 2) x secret l).1.size ≤ _
      unfold shownA
      by_cases u1 : secret.size = 0
      · rw [if_pos u1]; exact Nat.zero_le _
      rw [if_neg u1]
      by_cases u2 : (vec l).2 = false
      · rw [if_pos u2]; exact Nat.zero_le _
      rw [if_neg u2]
      split
      · exact Nat.zero_le _
      · dsimp only
        rw [ByteArray.size_extract, maskB_size]
        omega
  · rw [if_neg t5]
    exact ⟨by dsimp only; omega, by dsimp only; omega, h40, hx⟩
theorem getFromA_more (secret : ByteArray) : ∀ (f g : Nat) (b : ByteArray) (out : List Av), b.size ≤ f → b.size ≤ g → getFromA secret f b out = getFromA secret g b out
  | 0, g, b, out, h1, h2 => by
    cases g with
    | zero => rfl
    | succ g => rw [getFromA, getFromA, if_pos (by omega)]
  | f + 1, 0, b, out, h1, h2 => by rw [getFromA, getFromA, if_pos (by omega)]
  | f + 1, g + 1, b, out, h1, h2 => by
    rw [getFromA, getFromA]
    by_cases h : b.size = 0
    · rw [if_pos h, if_pos h]
    rw [if_neg h, if_neg h]
    by_cases h3 : (oneA b secret out).2.2 ≠ 0
    · rw [if_pos h3, if_pos h3]
    rw [if_neg h3, if_neg h3]
    have := (oneA_ok (Classical.not_not.1 h3)).1
    exact getFromA_more secret f g _ _ (by rw [ByteArray.size_extract]; omega) (by rw [ByteArray.size_extract]; omega)

theorem vec_size' (l : List Av) (m : Nat) (h : ∀ a ∈ l, a.val.size ≤ m) : (vec l).1.size ≤ m := by
  unfold vec
  cases hf : l.reverse.find? isVec with
  | none => exact Nat.zero_le _
  | some t => exact h t (by simpa using List.mem_of_find?_eq_some hf)
set_option maxHeartbeats 4000000 in
theorem avpGet_any (b secret : ByteArray) (w : World) (hb : b.size ≤ 400000) (hs : secret.size ≤ 400000) :
    Calls Tryz.prog 87 #[.string b, .string secret] w fun e w' => ∃ v own, e = .returned (.tuple #[v, .int .i64 (getA b secret).2]) ∧ Own w' 85 5 v (getA b secret).1.length (avCells (getA b secret).1) own ∧ (∀ k ∈ own, w.heap.size ≤ k) ∧ Upd [] w w' := by
  obtain ⟨i0, hi, hz0, hz1, hz2⟩ := info_parts info_av
  obtain ⟨R, hR⟩ : ∃ R, getA b secret = R := ⟨_, rfl⟩
  have HR : Hid (getFromA secret b.size b [] = R) := hR
  rw [hR]
  clear hR
  go_enter Tryz.func87, Tryz.ntmps87
  go_wp2_with fail
  go_loopg [0, 6] b.size (fun m s0 s6 wr => ∃ (s : ByteArray) (out : List Av) (ao : Option Addr) (n cap : Nat) (own : List Nat), s0 = .string s ∧ s.size = m ∧ s.size ≤ b.size ∧ s6 = .slice ao n cap ∧ n = out.length ∧ n ≤ 40 ∧ (∀ a ∈ out, a.val.size ≤ b.size) ∧ getFromA secret s.size s out = R ∧
    Own wr 85 5 (.slice ao n cap) n (avCells out) own ∧ (∀ k, k ∈ own → w.heap.size ≤ k) ∧ Upd [] w wr)
  case atStart => exact ⟨b, [], none, 0, 0, [], rfl, rfl, Nat.le_refl _, rfl, rfl, by omega, by simp, HR.out, Own.nil _ _ _, by simp, Upd.refl _ _⟩
  case round =>
    obtain ⟨s, out, ao, n, cap, own, rfl, hsm, hsb, rfl, hn, hn40, hall, hg, hown, hin, hu⟩ := hrel
    have HN := Lib.hid hn
    have HO := Lib.hid hown
    have HIN := Lib.hid hin
    have HU := Lib.hid hu
    have hwz : w.heap.size ≤ wr.heap.size := hu.size
    clear HR
    by_cases t : s.size = 0
    · have e0 := str_empty_t t
      have HG : Hid ((out, (0 : Int)) = R) := by show _ = _; rw [← hg, t, getFromA]
      clear hg hown hin hu hn hall t
      go_wp2_with fail
      go_ret2
      have hr := HG.out
      subst hr
      exact ⟨_, own, rfl, by rw [← HN.out]; exact HO.out, HIN.out, HU.out⟩
    · have e0 := str_empty_f t
      obtain ⟨z, hz⟩ : ∃ z, s.size = z + 1 := ⟨s.size - 1, by omega⟩
      rw [hz, getFromA, if_neg t] at hg
      have HV : AvsAt wr (.slice ao n cap) out := AvsAt.of_own (by rw [← hn]; exact hown)
      have H1 := Lib.hid (one_any s out _ secret wr HV (by omega) hs (vec_size' out 400000 (fun a ha => by have := hall a ha; omega)))
      have hok := @oneA_ok s secret out
      obtain ⟨a, k, e, hake⟩ : ∃ a k e, oneA s secret out = (a, k, e) := ⟨_, _, _, rfl⟩
      rw [hake] at H1 hok hg
      dsimp only at H1 hok hg
      have HALL := Lib.hid hall
      clear hown hin hu hake HV hn hall
      by_cases t2 : e = 0
      · subst e
        obtain ⟨k6, ks, h40, haz⟩ := hok rfl
        rw [if_neg (by simp)] at hg
        have HAZ := Lib.hid haz
        have h40' : n < 40 := by rw [HN.out]; exact h40
        have HG : Hid (getFromA secret (s.extract k s.size).size (s.extract k s.size) (out ++ [a]) = R) := by
          show _ = _
          rw [← hg]
          exact getFromA_more secret _ _ _ _ (Nat.le_refl _) (by rw [ByteArray.size_extract]; omega)
        clear hg hok haz
        simp only [Av.agg] at H1
        go_wp2_with fail
        refine H1.out.mono ?_
        rintro e w1 ⟨rfl, hu1⟩
        have HO1 := Lib.hid (HO.out.upd hu1 (by simp))
        have HU1 := Lib.hid (HU.out.trans hu1)
        have hz1' : wr.heap.size ≤ w1.heap.size := hu1.size
        clear hu1
        have c0 := (Blk.new w1 85 #[.bool a.must, .bool a.hidden, .int .i64 a.vendor, .int .i64 a.kind, .string a.val]).cell 0
        have c1 := (Blk.new w1 85 #[.bool a.must, .bool a.hidden, .int .i64 a.vendor, .int .i64 a.kind, .string a.val]).cell 1
        have c2 := (Blk.new w1 85 #[.bool a.must, .bool a.hidden, .int .i64 a.vendor, .int .i64 a.kind, .string a.val]).cell 2
        have c3 := (Blk.new w1 85 #[.bool a.must, .bool a.hidden, .int .i64 a.vendor, .int .i64 a.kind, .string a.val]).cell 3
        have c4 := (Blk.new w1 85 #[.bool a.must, .bool a.hidden, .int .i64 a.vendor, .int .i64 a.kind, .string a.val]).cell 4
        simp only [List.size_toArray, List.length_cons, List.length_nil, List.getElem?_toArray, List.getElem?_cons_zero, List.getElem?_cons_succ] at c0 c1 c2 c3 c4
        have HO2 := Lib.hid ((HO1.out.alloc (Obj.cells #[.bool a.must, .bool a.hidden, .int .i64 a.vendor, .int .i64 a.kind, .string a.val] 85)))
        have HU2 := Lib.hid (HU1.out.alloc (Obj.cells #[.bool a.must, .bool a.hidden, .int .i64 a.vendor, .int .i64 a.kind, .string a.val] 85))
        have hz2' : (w1.alloc (Obj.cells #[.bool a.must, .bool a.hidden, .int .i64 a.vendor, .int .i64 a.kind, .string a.val] 85)).heap.size = w1.heap.size + 1 := by simp
        go_wp2_with (at_builtin; refine wpList_append_Own _ rfl (.tmp 23) (.tmp 25) 22 rfl 85 i0 _ 5 40 Tryz.underlying22 hi hz0 hz1 hz2 rfl (by decide) (.slice ao n cap) n (avCells out) own (by simp [Act.eval]) (Own.alloc _ HO2.out) ⟨w1.heap.size + 1, 0, none⟩ 1 1 [.bool a.must, .bool a.hidden, .int .i64 a.vendor, .int .i64 a.kind, .string a.val] (by simp [Act.eval]) rfl (by rw [← hz2']; exact World.news_of_block (Blk.new _ _ _)) (by simp [Value.oneCell']) (by decide) (by simp only [maxLen]; omega) (by omega) ?_; intro g off cap1 w3 ow2 ho2 hin2 hu2; have HO3 := Lib.hid ho2; have HIN3 := Lib.hid hin2; have HU3 := Lib.hid hu2; clear ho2 hin2 hu2)
        go_roundg (s.extract k s.size).size
        case rel =>
          have hin3 : ∀ j, j ∈ ow2 → w.heap.size ≤ j := fun j hj => by
            rcases HIN3.out j hj with h | h
            · exact HIN.out j h
            · simp at h; omega
          refine ⟨s.extract k s.size, out ++ [a], some ⟨g, off, none⟩, n + 1, cap1, ow2, by rw [← hsm], rfl, by rw [ByteArray.size_extract]; omega, rfl, by rw [List.length_append, HN.out]; rfl, by omega, ?_, HG.out, ?_, hin3, ?_⟩
          · intro x hx
            rcases List.mem_append.1 hx with h | h
            · exact HALL.out x h
            · simp at h; subst h; exact Nat.le_trans HAZ.out hsb
          · rw [avCells_snoc]; exact HO3.out
          · exact ((HU2.out.alloc _).trans' HU3.out (fun x hx => .inr (HIN.out x hx)))
        case measure => rw [ByteArray.size_extract]; omega
      · have t2' : ((e != 0) : Bool) = true := by simpa using t2
        rw [if_pos t2] at hg
        have HG := Lib.hid hg
        clear hg hok
        simp only [Av.agg] at H1
        go_wp2_with fail
        refine H1.out.mono ?_
        rintro e w1 ⟨rfl, hu1⟩
        go_wp2_with fail
        go_ret2
        have hr := HG.out
        subst hr
        exact ⟨_, [], rfl, Own.nil _ _ _, by simp, (HU.out.trans hu1).alloc _⟩
end Go.Proofs.YtglafpdealjlnaaGreat
