/- CallTells: the two ends stage by stage, as plain data. -/
import Derived.Test.YtihedbaomingpaaCallEn
namespace Go.Proofs.Ytihedbaomingpaa
open Go.RowKit
set_option linter.unusedSimpArgs false
set_option linter.unusedVariables false
set_option maxRecDepth 100000

def tl0 (id : Int) : List Av := [numAv 0 10 2, numAv 14 id 2, numAv 15 1 4]
def tl1 : List Av := [numAv 0 11 2, numAv 14 9 2]
def tl2 : List Av := [numAv 0 12 2, numAv 24 10000000 4, numAv 19 1 4]
def tka1 (id : Int) : K := ⟨id, 1, 0, false, true, 1, [], [], 0, 0⟩
def tkb1 (id : Int) : K := ⟨9, 1, id, false, true, 2, [], [], 0, 0⟩
def tka2 (id : Int) : K := ⟨id, 1, 9, false, true, 3, [], [], 0, 0⟩
def tkb2 (id : Int) (e s : Int) : K := ⟨9, 1, id, false, true, 3, [], tl2, e, s⟩
theorem te_open (id : Int) : (K.new id 1 false).openC = (tka1 id, [(0, tl0 id)]) := by
  simp [K.openC, K.new, K.say, K.own, tl0, tka1, kindFor, roleTab]
theorem te_two (k : Int) (l : List Av) (h : 0 ≤ k ∧ k < 65536) : kindOf (numAv 0 k 2 :: l) = k := by
  simp [kindOf, numAv, be_size]
  exact num_be 2 k (by simpa using h)
theorem te_check0 (id : Int) : checkOf (tl0 id) = 0 := by
  have h1 : needsOf 10 = some [14, 15] := by decide +kernel
  have h2 : avpLen 14 = 2 := by decide +kernel
  have h3 : avpLen 15 = 4 := by decide +kernel
  have hb : badOf [numAv 14 id 2, numAv 15 1 4] = 0 := by simp [badOf, wrongAv, numAv, h2, h3, be_size]
  have hn : needOf (tl0 id) [14, 15] = 0 := by simp [needOf, tl0, find_num, find_skip]
  have : checkOf (tl0 id) = match needsOf (kindOf (tl0 id)) with
    | none => 40
    | some ns => if badOf [numAv 14 id 2, numAv 15 1 4] = 0 then needOf (tl0 id) ns else badOf [numAv 14 id 2, numAv 15 1 4] := rfl
  rw [this, tl0, te_two 10 _ (by omega), h1, ← tl0]
  simp only [hb, hn, if_true]
theorem te_num (v : Int) (l l1 : List Av) (h : 0 ≤ v ∧ v < 65536) (hl : findAv 14 l = (be 2 v, true)) : numberAv l 14 = (v, true) := by
  rw [numberAv, hl]
  simp [be_size]
  exact number_be v h
theorem te_b1 (id : Int) (h : 1 ≤ id ∧ id ≤ 65535) : (K.new 9 1 false).take (tl0 id) = (tkb1 id, [(id, tl1)]) := by
  have hk : kindOf (tl0 id) = 10 := te_two 10 _ (by omega)
  have hr : roleOf 10 false = 1 := by decide
  have hn : numberAv (tl0 id) 14 = (id, true) := te_num id _ [] (by omega) (by rw [tl0, find_skip _ _ _ _ _ (by decide), find_num])
  have hq : kindFor false 2 = 11 := by decide
  have h0 : id ≠ 0 := by omega
  simp [K.take, hk, K.new, hr, te_check0, K.handle, K.named, K.named1, hn, K.say, K.own, hq, h0, tkb1, tl1]
theorem te_a2 (id : Int) : (tka1 id).take tl1 = (tka2 id, [(9, tl2)]) := by
  have hk : kindOf tl1 = 11 := te_two 11 _ (by omega)
  have hc : checkOf tl1 = 0 := by decide +kernel
  have hr : roleOf 11 false = 2 := by decide
  have hn : numberAv tl1 14 = (9, true) := te_num 9 _ [] (by omega) (by rw [tl1, find_skip _ _ _ _ _ (by decide), find_num])
  have hq : kindFor false 3 = 12 := by decide
  simp [K.take, tka1, hk, hc, hr, K.handle, K.named, K.named1, hn, K.say, K.conn, hq, tka2, tl2]
theorem te_b2 (id : Int) : (tkb1 id).take tl2 = (tkb2 id 0 0, []) := by
  have hk : kindOf tl2 = 12 := te_two 12 _ (by omega)
  have hc : checkOf tl2 = 0 := by decide +kernel
  have hr : roleOf 12 false = 3 := by decide
  simp [K.take, tkb1, hk, hc, hr, K.handle, tkb2]
theorem tl0_small (id : Int) : ∀ a ∈ tl0 id, a.val.size ≤ maxLen := by
  intro a ha
  simp only [tl0, List.mem_cons, List.not_mem_nil, or_false] at ha
  rcases ha with rfl | rfl | rfl <;> exact numAv_small _ _ _ (by omega)
theorem tl1_small : ∀ a ∈ tl1, a.val.size ≤ maxLen := by
  intro a ha
  simp only [tl1, List.mem_cons, List.not_mem_nil, or_false] at ha
  rcases ha with rfl | rfl <;> exact numAv_small _ _ _ (by omega)
theorem tl2_small : ∀ a ∈ tl2, a.val.size ≤ maxLen := by
  intro a ha
  simp only [tl2, List.mem_cons, List.not_mem_nil, or_false] at ha
  rcases ha with rfl | rfl | rfl <;> exact numAv_small _ _ _ (by omega)
theorem tka1_ok (id : Int) : (tka1 id).ok := ⟨rfl, by simp [tka1], by simp [tka1], by simp [tka1], by simp [tka1], by simp [tka1], by simp [tka1]⟩
theorem tkb1_ok (id : Int) : (tkb1 id).ok := ⟨rfl, by simp [tkb1], by simp [tkb1], by simp [tkb1], by simp [tkb1], by simp [tkb1], by simp [tkb1]⟩
theorem tkb2_ok (id e s : Int) (he : 0 ≤ e ∧ e ≤ 100) (hs : 0 ≤ s ∧ s ≤ 100) : (tkb2 id e s).ok := ⟨rfl, by simp only [tkb2]; omega, by simp only [tkb2]; omega, by simp only [tkb2]; omega, by simp only [tkb2]; omega, by simp [tkb2], tl2_small⟩
def teT (kind value : Int) (text : ByteArray) : List Av := [numAv 0 kind 2, ⟨true, false, 0, value, text⟩]
theorem teT_small (kind value : Int) (text : ByteArray) (ht : text.size ≤ maxLen) : ∀ a ∈ teT kind value text, a.val.size ≤ maxLen := by
  intro a ha
  simp only [teT, List.mem_cons, List.not_mem_nil, or_false] at ha
  rcases ha with rfl | rfl
  · exact numAv_small _ _ _ (by omega)
  · exact ht
theorem find_raw (k : Int) (s : ByteArray) (l : List Av) : findAv k (⟨true, false, 0, k, s⟩ :: l) = (s, true) := by simp [findAv, avIs]
theorem te_checkT (kind value : Int) (text : ByteArray) (hk : 0 ≤ kind ∧ kind < 65536) (h1 : needsOf kind = some [value]) (h2 : avpLen value = -1) (h3 : value ≠ 0) : checkOf (teT kind value text) = 0 := by
  have hb : badOf [⟨true, false, 0, value, text⟩] = 0 := by simp [badOf, wrongAv, h2, h3]
  have hn : needOf (teT kind value text) [value] = 0 := by simp [needOf, teT, find_skip _ _ _ _ _ h3.symm, find_raw]
  have : checkOf (teT kind value text) = match needsOf (kindOf (teT kind value text)) with
    | none => 40
    | some ns => if badOf [⟨true, false, 0, value, text⟩] = 0 then needOf (teT kind value text) ns else badOf [⟨true, false, 0, value, text⟩] := rfl
  rw [this, teT, te_two kind _ hk, h1, ← teT]
  simp only [hb, hn, if_true]
theorem te_wen (id e s : Int) (text : ByteArray) (he : 0 ≤ e ∧ e ≤ 100) : (tkb2 id e s).take (teT 15 34 text) = (tkb2 id (e + 1) s, []) := by
  have hk : kindOf (teT 15 34 text) = 15 := te_two 15 _ (by omega)
  have hc := te_checkT 15 34 text (by omega) (by decide +kernel) (by decide +kernel) (by decide)
  have hr : roleOf 15 false = 0 := by decide
  have hm : min (e + 1) 2147483647 = e + 1 := by omega
  simp [K.take, tkb2, hk, hc, hr, K.handle, hm]
theorem te_sli (id e s : Int) (text : ByteArray) (hs : 0 ≤ s ∧ s ≤ 100) : (tkb2 id e s).take (teT 16 35 text) = (tkb2 id e (s + 1), []) := by
  have hk : kindOf (teT 16 35 text) = 16 := te_two 16 _ (by omega)
  have hc := te_checkT 16 35 text (by omega) (by decide +kernel) (by decide +kernel) (by decide)
  have hr : roleOf 16 false = 0 := by decide
  have hm : min (s + 1) 2147483647 = s + 1 := by omega
  simp [K.take, tkb2, hk, hc, hr, K.handle, hm]
theorem te_tell (id kind value : Int) (text : ByteArray) (ht : text.size ≤ 1000) : (tka2 id).tell kind value text = [(9, teT kind value text)] := by
  have : ¬ 1000 < text.size := by omega
  simp [K.tell, tka2, this, K.say, teT]
theorem te_quiet (id kind value : Int) (text : ByteArray) : (K.new id 1 false).tell kind value text = [] := by simp [K.tell, K.new]
structure TeSt (w wr : World) (ca cb : Nat) (ka kb : K) (l : List Sy) (v : Value) : Prop where
  a : CallAt wr ca ka
  b : CallAt wr cb kb
  says : ∃ own, SaysAt wr v l own
  u : Upd [] w wr
structure TeS2 (w wr : World) (ca cb : Nat) (ka kb : K) : Prop where
  a : CallAt wr ca ka
  b : CallAt wr cb kb
  u : Upd [] w wr
def teA (id : Int) (k : Nat) : K := if k < 2 then tka1 id else tka2 id
def teB (id : Int) (k : Nat) : K := if k = 0 then K.new 9 1 false else if k < 3 then tkb1 id else tkb2 id 0 0
def teL (id : Int) (k : Nat) : List Sy := if k = 0 then [(0, tl0 id)] else if k = 1 then [(id, tl1)] else if k = 2 then [(9, tl2)] else []
end Go.Proofs.Ytihedbaomingpaa
