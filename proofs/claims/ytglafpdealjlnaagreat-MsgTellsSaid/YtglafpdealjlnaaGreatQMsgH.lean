/- Plain: values that are put are got; cut they are short or fewer. No program in sight beyond what the walks compute. The walk of msg.Get, msg.IsCtl. The walk of msg.Put. What msg.Put has written msg.Get reads (plain law). -/
import Derived.Test.YtglafpdealjlnaaGreatQAvpP
import Derived.Test.YtglafpdealjlnaaGreatQAvpH
import Derived.Test.YtglafpdealjlnaaGreatQMsgF
namespace Go.Proofs.YtglafpdealjlnaaGreat
open Go.RowKit
set_option linter.unusedSimpArgs false
set_option linter.unusedVariables false

def encsA (secret : ByteArray) : List Av → List Av → ByteArray
  | _, [] => ⟨#[]⟩
  | pre, a :: r => encA a (contentA a pre secret).1 ++ encsA secret (pre ++ [a]) r
def okA (secret : ByteArray) : List Av → List Av → Prop
  | _, [] => True
  | pre, a :: r => (contentA a pre secret).2 = 0 ∧ okA secret (pre ++ [a]) r

theorem putFromA_ok (secret : ByteArray) : ∀ (r pre : List Av) (out : ByteArray), (putFromA secret pre r out).2 = 0 → okA secret pre r ∧ (putFromA secret pre r out).1 = out ++ encsA secret pre r ∧ (putFromA secret pre r out).1.size ≤ 1488
  | [], pre, out, h => by
    rw [putFromA] at h ⊢
    by_cases t : 1488 < out.size
    · rw [if_pos t] at h; cases h
    · rw [if_neg t]
      refine ⟨trivial, ?_, by dsimp only; omega⟩
      rw [encsA]
      exact ByteArray.append_empty.symm
  | a :: r, pre, out, h => by
    rw [putFromA] at h ⊢
    by_cases t : (contentA a pre secret).2 ≠ 0
    · rw [if_pos t] at h; exact absurd h t
    · rw [if_neg t] at h ⊢
      obtain ⟨h1, h2, h3⟩ := putFromA_ok secret r _ _ h
      refine ⟨⟨Classical.not_not.1 t, h1⟩, ?_, h3⟩
      rw [h2, encsA, ByteArray.append_assoc]
theorem putFromA_bad (secret : ByteArray) : ∀ (r pre : List Av) (out : ByteArray), (putFromA secret pre r out).2 ≠ 0 → (putFromA secret pre r out).1 = ⟨#[]⟩
  | [], pre, out, h => by
    rw [putFromA] at h ⊢
    by_cases t : 1488 < out.size
    · rw [if_pos t]
    · rw [if_neg t] at h; exact absurd rfl h
  | a :: r, pre, out, h => by
    rw [putFromA] at h ⊢
    by_cases t : (contentA a pre secret).2 ≠ 0
    · rw [if_pos t]
    · rw [if_neg t] at h ⊢
      exact putFromA_bad secret r _ _ h
theorem putA_bad {l : List Av} {secret : ByteArray} (h : (putA l secret).2 ≠ 0) : (putA l secret).1 = ⟨#[]⟩ := by
  unfold putA at h ⊢
  by_cases t : 40 < l.length
  · rw [if_pos t]
  · rw [if_neg t] at h ⊢; exact putFromA_bad _ _ _ _ h
theorem putA_ok {l : List Av} {secret : ByteArray} (h : (putA l secret).2 = 0) : l.length ≤ 40 ∧ okA secret [] l ∧ (putA l secret).1 = encsA secret [] l ∧ (encsA secret [] l).size ≤ 1488 := by
  unfold putA at h ⊢
  by_cases t : 40 < l.length
  · rw [if_pos t] at h; cases h
  · rw [if_neg t] at h ⊢
    obtain ⟨h1, h2, h3⟩ := putFromA_ok _ _ _ _ h
    have h4 : (putFromA secret [] l ⟨#[]⟩).1 = encsA secret [] l := by rw [h2]; exact ByteArray.empty_append
    exact ⟨by omega, h1, h4, h4 ▸ h3⟩

theorem extract_app_left (s t : ByteArray) (i j : Nat) (h : j ≤ s.size) : (s ++ t).extract i j = s.extract i j := by
  apply ByteArray.ext
  apply Array.ext_getElem?
  intro k
  rw [ByteArray.data_extract, ByteArray.data_extract, Array.getElem?_extract, Array.getElem?_extract, ByteArray.data_append]
  have hs : s.data.size = s.size := rfl
  have ht : (s.data ++ t.data).size = s.size + t.size := by rw [Array.size_append]; rfl
  by_cases hk : k < j - i
  · rw [if_pos (by omega), if_pos (by omega), Array.getElem?_append_left (by omega)]
  · rw [if_neg (by omega), if_neg (by omega)]
/-- The head of a value laid, whatever stands behind. -/
theorem encA_head (a : Av) (c t : ByteArray) (hv : 0 ≤ a.vendor ∧ a.vendor ≤ 65535) (hk : 0 ≤ a.kind ∧ a.kind ≤ 65535) (hc : c.size ≤ 1002) :
    num (encA a c ++ t) 0 2 = flagsA a + c.size + 6 ∧ num (encA a c ++ t) 2 2 = a.vendor ∧ num (encA a c ++ t) 4 2 = a.kind ∧ (encA a c ++ t).extract 6 (c.size + 6) = c := by
  have hf := flagsA_bd a
  have z := encA_size a c
  obtain ⟨y1, h1⟩ : ∃ y, be 2 (flagsA a + c.size + 6) = y := ⟨_, rfl⟩
  obtain ⟨y2, h2⟩ : ∃ y, be 2 a.vendor = y := ⟨_, rfl⟩
  obtain ⟨y3, h3⟩ : ∃ y, be 2 a.kind = y := ⟨_, rfl⟩
  have z1 := be_size 2 (flagsA a + c.size + 6)
  have z2 := be_size 2 a.vendor
  have z3 := be_size 2 a.kind
  have n1 := num_be 2 (flagsA a + c.size + 6) (by omega)
  have n2 := num_be 2 a.vendor (by omega)
  have n3 := num_be 2 a.kind (by omega)
  rw [h1] at z1 n1
  rw [h2] at z2 n2
  rw [h3] at z3 n3
  rw [num_append_l _ _ _ _ (by omega), num_append_l _ _ _ _ (by omega), num_append_l _ _ _ _ (by omega), extract_app_left _ _ _ _ (by omega)]
  have e : encA a c = y1 ++ y2 ++ y3 ++ c := by rw [encA, h1, h2, h3]
  rw [e]
  have s12 : (y1 ++ y2).size = 4 := by rw [ByteArray.size_append]; omega
  have s123 : (y1 ++ y2 ++ y3).size = 6 := by rw [ByteArray.size_append]; omega
  refine ⟨?_, ?_, ?_, ?_⟩
  · rw [num_append_l _ _ _ _ (by omega), num_append_l _ _ _ _ (by omega), num_append_l _ _ _ _ (by omega), n1]
  · rw [num_append_l _ _ _ _ (by omega), num_append_l _ _ _ _ (by omega), num_append_r _ _ _ (by omega), z1, n2]
  · rw [num_append_l _ _ _ _ (by omega), num_append_r _ _ _ (by omega), s12, n3]
  · exact ByteArray.extract_append_eq_right (by omega) (by omega)

theorem be2_extract (x : ByteArray) (v : Int) (hv : 0 ≤ v ∧ v < 65536) : (be 2 v ++ x).size = 2 + x.size ∧ num (be 2 v ++ x) 0 2 = v ∧ (be 2 v ++ x).extract 2 (2 + x.size) = x := by
  have z := be_size 2 v
  refine ⟨by rw [ByteArray.size_append, z], ?_, ByteArray.extract_append_eq_right z.symm (by rw [z])⟩
  rw [num_append_l _ _ _ _ (by omega), num_be 2 v (by omega)]
/-- A hidden value is told again. -/
theorem shownA_content {a : Av} {pre : List Av} {secret : ByteArray} (h : (contentA a pre secret).2 = 0) (hh : a.hidden = true) : shownA a.kind (contentA a pre secret).1 secret pre = (a.val, 0) := by
  obtain ⟨h1, h2, h3⟩ := contentA_ok h
  rw [h3, if_neg (by simp [hh])]
  unfold contentA at h
  rw [if_neg (fun hn => hn h1), if_neg (by omega), if_neg (by simp [hh])] at h
  have t4 : ¬ secret.size = 0 := fun t => by rw [if_pos t] at h; cases h
  rw [if_neg t4] at h
  have t5 : ¬ (vec pre).2 = false := fun t => by rw [if_pos t] at h; cases h
  unfold shownA
  have e := unmaskB_maskB false a.kind secret (vec pre).1 (be 2 a.val.size ++ a.val)
  rw [Bool.not_false] at e
  obtain ⟨e1, e2, e3⟩ := be2_extract a.val a.val.size (by omega)
  rw [if_neg t4, if_neg t5, e, e1, e2, e3, if_neg (by omega)]
theorem oneA_enc {a : Av} {pre : List Av} {secret : ByteArray} (t : ByteArray) (h : (contentA a pre secret).2 = 0) (hp : pre.length < 40) :
    oneA (encA a (contentA a pre secret).1 ++ t) secret pre = (a, (contentA a pre secret).1.size + 6, 0) := by
  obtain ⟨h1, h2, h3⟩ := contentA_ok h
  have hc := contentA_size h
  have hs := @shownA_content a pre secret h
  obtain ⟨g1, g2, g3, g4⟩ := encA_head a (contentA a pre secret).1 t h1.1 h1.2 hc
  have hz : (encA a (contentA a pre secret).1 ++ t).size = 6 + (contentA a pre secret).1.size + t.size := by rw [ByteArray.size_append, encA_size]
  have hcz : a.hidden = false → (contentA a pre secret).1 = a.val := fun hh => by rw [h3, if_pos hh]
  generalize (contentA a pre secret).1 = c at *
  have hf : flagsA a = (if a.must = true then 32768 else 0) + (if a.hidden = true then 16384 else 0) := rfl
  obtain ⟨mu, hi, ve, kd, val⟩ := a
  dsimp only at *
  unfold oneA
  rw [if_neg (by omega), g1, g2, g3]
  dsimp only
  have hm : (flagsA ⟨mu, hi, ve, kd, val⟩ + c.size + 6).toNat = (if mu = true then 32768 else 0) + (if hi = true then 16384 else 0) + c.size + 6 := by
    rw [hf]
    cases mu <;> cases hi <;> simp <;> omega
  rw [hm]
  clear hm g1 g2 g3 hf
  cases mu <;> cases hi <;> simp only [Bool.false_eq_true, if_false, if_true, Nat.zero_add]
  · have hcv := hcz rfl
    have : (c.size + 6) % 1024 = c.size + 6 := by omega
    rw [if_neg (by omega), this, if_neg (by omega), if_neg (by rw [if_neg (by omega)]; subst hcv; omega), if_neg (by omega), g4, hcv]
    have : ¬ 32768 ≤ val.size + 6 := by omega
    simp [this]
  · have e : (16384 + c.size + 6) % 1024 = c.size + 6 := by omega
    rw [if_neg (by omega), e, if_neg (by omega), if_neg (by rw [if_pos (by omega)]; omega), if_pos (by omega), g4, hs rfl, if_neg (by simp)]
    have : ¬ 32768 ≤ 16384 + c.size + 6 := by omega
    simp [this]
  · have hcv := hcz rfl
    have e : (32768 + 0 + c.size + 6) % 1024 = c.size + 6 := by omega
    rw [if_neg (by omega), e, if_neg (by omega), if_neg (by rw [if_neg (by omega)]; subst hcv; omega), if_neg (by omega), g4, hcv]
    have : 32768 ≤ 32768 + 0 + val.size + 6 := by omega
    simp [this]
  · have e : (32768 + 16384 + c.size + 6) % 1024 = c.size + 6 := by omega
    rw [if_neg (by omega), e, if_neg (by omega), if_neg (by rw [if_pos (by omega)]; omega), if_pos (by omega), g4, hs rfl, if_neg (by simp)]
    have : 32768 ≤ 32768 + 16384 + c.size + 6 := by omega
    simp [this]

theorem getFromA_enc (secret : ByteArray) : ∀ (r pre : List Av) (f : Nat), okA secret pre r → pre.length + r.length ≤ 40 → (encsA secret pre r).size ≤ f → getFromA secret f (encsA secret pre r) pre = (pre ++ r, 0)
  | [], pre, f, h, hl, hf => by
    rw [encsA, List.append_nil]
    cases f with
    | zero => rfl
    | succ f => rw [getFromA, if_pos (by rfl)]
  | a :: r, pre, f, h, hl, hf => by
    rw [encsA] at hf ⊢
    have hc := contentA_size h.1
    have z := encA_size a (contentA a pre secret).1
    rw [ByteArray.size_append, z] at hf
    simp only [List.length_cons] at hl
    have ho := oneA_enc (encsA secret (pre ++ [a]) r) h.1 (show pre.length < 40 by omega)
    have hz : (encA a (contentA a pre secret).1 ++ encsA secret (pre ++ [a]) r).size = 6 + (contentA a pre secret).1.size + (encsA secret (pre ++ [a]) r).size := by rw [ByteArray.size_append, z]
    cases f with
    | zero => omega
    | succ f =>
      rw [getFromA, if_neg (by omega), ho]
      dsimp only
      rw [if_neg (by simp), hz, ByteArray.extract_append_eq_right (by omega) (by omega)]
      rw [getFromA_enc secret r (pre ++ [a]) f h.2 (by simp; omega) (by omega), List.append_assoc]
      rfl
theorem extract_all0 (s : ByteArray) (c : Nat) (h : s.size ≤ c) : s.extract 0 c = s := by
  apply ByteArray.ext
  rw [ByteArray.data_extract]
  exact Array.extract_eq_self_of_le h
theorem extract_app_cut (s t : ByteArray) (c : Nat) (h : s.size ≤ c) : (s ++ t).extract 0 c = s ++ t.extract 0 (c - s.size) := by
  rw [ByteArray.extract_append, extract_all0 s c h]
  congr 2
  omega
theorem num2_cut (s : ByteArray) (c i : Nat) (h : i + 2 ≤ c) : num (s.extract 0 c) i 2 = num s i 2 := by
  have hb : ∀ j, j < c → byte (s.extract 0 c) j = byte s j := fun j hj => by
    unfold byte
    rw [ByteArray.data_extract, Array.getElem?_extract]
    by_cases hjs : j < s.size
    · have : s.data.size = s.size := rfl
      rw [if_pos (by omega), Nat.zero_add]
    · have : s.data.size = s.size := rfl
      rw [if_neg (by omega), Array.getElem?_eq_none (by omega)]
  rw [num, num, num, num, num, num, hb _ (by omega), hb _ (by omega)]
/-- Cut within a value: short. -/
theorem oneA_cut {a : Av} {pre : List Av} {secret : ByteArray} (t : ByteArray) (h : (contentA a pre secret).2 = 0) (c : Nat) (hc : c < 6 + (contentA a pre secret).1.size) :
    (oneA ((encA a (contentA a pre secret).1 ++ t).extract 0 c) secret pre).2.2 = 5 := by
  obtain ⟨h1, h2, h3⟩ := contentA_ok h
  have hcc := contentA_size h
  obtain ⟨g1, g2, g3, g4⟩ := encA_head a (contentA a pre secret).1 t h1.1 h1.2 hcc
  have hz : (encA a (contentA a pre secret).1 ++ t).size = 6 + (contentA a pre secret).1.size + t.size := by rw [ByteArray.size_append, encA_size]
  have hf := flagsA_bd a
  generalize (contentA a pre secret).1 = x at *
  have hz2 : ((encA a x ++ t).extract 0 c).size = c := by rw [ByteArray.size_extract]; omega
  unfold oneA
  rw [hz2]
  by_cases t1 : c < 6
  · rw [if_pos t1]
  rw [if_neg t1, num2_cut _ _ _ (by omega), g1]
  dsimp only
  obtain ⟨m, hm⟩ : ∃ m : Nat, flagsA a = m := Int.eq_ofNat_of_zero_le hf.1
  rw [hm] at hf ⊢
  have e : ((m : Int) + x.size + 6).toNat = m + x.size + 6 := by omega
  have hm2 : m % 16384 = 0 := by omega
  rw [e, if_neg (by omega), if_pos (by omega)]
theorem getFromA_cut (secret : ByteArray) : ∀ (r pre : List Av) (f c : Nat), okA secret pre r → pre.length + r.length ≤ 40 → c < (encsA secret pre r).size → c ≤ f →
    getFromA secret f ((encsA secret pre r).extract 0 c) pre = ([], 5) ∨ ∃ k, k ≤ r.length ∧ getFromA secret f ((encsA secret pre r).extract 0 c) pre = (pre ++ r.take k, 0)
  | [], pre, f, c, h, hl, hc, hf => by
    have : (encsA secret pre []).size = 0 := rfl
    omega
  | a :: r, pre, f, c, h, hl, hc, hf => by
    have hz2 : ((encsA secret pre (a :: r)).extract 0 c).size = c := by rw [ByteArray.size_extract]; omega
    by_cases t0 : c = 0
    · refine .inr ⟨0, Nat.zero_le _, ?_⟩
      rw [List.take_zero, List.append_nil]
      cases f with
      | zero => rfl
      | succ f => rw [getFromA, if_pos (by omega)]
    · obtain ⟨f, rfl⟩ : ∃ g, f = g + 1 := ⟨f - 1, by omega⟩
      simp only [List.length_cons] at hl
      have z := encA_size a (contentA a pre secret).1
      have hz : (encsA secret pre (a :: r)).size = 6 + (contentA a pre secret).1.size + (encsA secret (pre ++ [a]) r).size := by rw [encsA, ByteArray.size_append, z]
      rw [getFromA, if_neg (by omega), hz2]
      by_cases t1 : c < 6 + (contentA a pre secret).1.size
      · have := oneA_cut (encsA secret (pre ++ [a]) r) h.1 c t1
        rw [encsA, this, if_pos (by decide)]
        exact .inl rfl
      · have he : (encsA secret pre (a :: r)).extract 0 c = encA a (contentA a pre secret).1 ++ (encsA secret (pre ++ [a]) r).extract 0 (c - (encA a (contentA a pre secret).1).size) := by
          rw [encsA]
          exact extract_app_cut _ _ _ (by omega)
        rw [he, oneA_enc _ h.1 (by omega)]
        dsimp only
        rw [if_neg (by simp), ByteArray.extract_append_eq_right (by omega) (by rw [z, ByteArray.size_extract]; omega)]
        rcases getFromA_cut secret r (pre ++ [a]) f (c - (encA a (contentA a pre secret).1).size) h.2 (by simp; omega) (by omega) (by omega) with h5 | ⟨k, hk, h5⟩
        · exact .inl h5
        · refine .inr ⟨k + 1, by simp; omega, ?_⟩
          rw [h5, List.take_succ_cons, List.append_assoc]
          rfl
theorem getA_put {l : List Av} {secret : ByteArray} (h : (putA l secret).2 = 0) : getA (putA l secret).1 secret = (l, 0) := by
  obtain ⟨h1, h2, h3, h4⟩ := putA_ok h
  rw [h3, getA, getFromA_enc secret l [] _ h2 (by simpa using h1) (Nat.le_refl _)]
  rfl
theorem getA_cut {l : List Av} {secret : ByteArray} (h : (putA l secret).2 = 0) (c : Nat) (hc : c < (putA l secret).1.size) :
    getA ((putA l secret).1.extract 0 c) secret = ([], 5) ∨ ∃ k, k ≤ l.length ∧ getA ((putA l secret).1.extract 0 c) secret = (l.take k, 0) := by
  obtain ⟨h1, h2, h3, h4⟩ := putA_ok h
  rw [h3] at hc ⊢
  have hz : ((encsA secret [] l).extract 0 c).size = c := by rw [ByteArray.size_extract]; omega
  rw [getA, hz]
  exact getFromA_cut secret l [] c c h2 (by simpa using h1) hc (Nat.le_refl _)
end Go.Proofs.YtglafpdealjlnaaGreat
namespace Go.Proofs.YtglafpdealjlnaaGreat
open Go.RowKit
set_option linter.unusedSimpArgs false
set_option linter.unusedVariables false
set_option maxRecDepth 100000

structure Cm where
  t : Int
  s : Int
  ns : Int
  nr : Int
  l : List Av
def Cm.val (c : Cm) (v : Value) : Value := .agg #[.int .i64 c.t, .int .i64 c.s, .int .i64 c.ns, .int .i64 c.nr, v]
def Cm.zero : Cm := ⟨0, 0, 0, 0, []⟩
def getM (b secret : ByteArray) : Cm × Int :=
  if b.size < 12 then (.zero, 5) else if byte b 0 ≠ 200 ∨ byte b 1 ≠ 2 then (.zero, 4) else
  if (b.size : Int) < num b 2 2 then (.zero, 5) else if num b 2 2 < 12 then (.zero, 4) else
  if (getA (b.extract 12 (num b 2 2).toNat) secret).2 ≠ 0 then (.zero, (getA (b.extract 12 (num b 2 2).toNat) secret).2)
  else (⟨num b 4 2, num b 6 2, num b 8 2, num b 10 2, (getA (b.extract 12 (num b 2 2).toNat) secret).1⟩, 0)

structure GotM (w : World) (r : Cm × Int) (e : Ending) (w' : World) : Prop where
  out : ∃ v own, e = .returned (.tuple #[r.1.val v, .int .i64 r.2]) ∧ Own w' 85 5 v r.1.l.length (avCells r.1.l) own ∧ (∀ k ∈ own, w.heap.size ≤ k) ∧ Upd [] w w'
set_option maxHeartbeats 4000000 in
theorem msgGet_any (b secret : ByteArray) (hb : b.size ≤ 400000) (hs : secret.size ≤ 400000) (w : World) :
    Calls Tryz.prog 11 #[.string b, .string secret] w (GotM w (getM b secret)) := by
  obtain ⟨R, hR⟩ : ∃ R, getM b secret = R := ⟨_, rfl⟩
  rw [hR]
  have HR := Lib.hid hR
  clear hR
  simp only [getM] at HR
  by_cases t1 : b.size < 12
  · have hr := HR.out
    rw [if_pos t1] at hr
    subst hr
    clear HR
    have t1' : (b.size : Int) < 12 := by omega
    go_enter Tryz.func11, Tryz.ntmps11
    go_wp2_with fail
    exact bodyPost_ret (v := .tuple #[.agg #[.int .i64 0, .int .i64 0, .int .i64 0, .int .i64 0, .slice none 0 0], .int .i64 5]) (by simp [results, Tryz.results11, go_sem]) rfl ⟨⟨.slice none 0 0, [], rfl, Own.nil _ _ _, by simp, (by repeat (first | refine Upd.setCell _ ?_ (.inr (by simp)) | refine Upd.alloc _ ?_ | exact Upd.refl _ _))⟩⟩
  have HR1 : Hid (_ = R) := (if_neg t1).symm.trans HR.out
  have t1' : ¬ (b.size : Int) < 12 := by omega
  clear HR
  have hbyte : ∀ i (h : i < b.size), ((b[i].toNat : Int)) = byte b i := byte_get b
  have q0 := hbyte 0 (by omega)
  have q1 := hbyte 1 (by omega)
  have hb0 := byte_bd b 0
  have hb1 := byte_bd b 1
  have hn := num_bd b 2 2
  have HN2 := Lib.hid (msgNum_any b 2 (by simp only [maxLen]; omega) (by omega))
  have HN4 := Lib.hid (msgNum_any b 4 (by simp only [maxLen]; omega) (by omega))
  have HN6 := Lib.hid (msgNum_any b 6 (by simp only [maxLen]; omega) (by omega))
  have HN8 := Lib.hid (msgNum_any b 8 (by simp only [maxLen]; omega) (by omega))
  have HN10 := Lib.hid (msgNum_any b 10 (by simp only [maxLen]; omega) (by omega))
  obtain ⟨n, hnn⟩ : ∃ n : Nat, num b 2 2 = n := Int.eq_ofNat_of_zero_le hn.1
  rw [hnn] at HR1 HN2 hn
  rw [Int.toNat_natCast] at HR1
  generalize byte b 0 = y0 at *
  generalize byte b 1 = y1 at *
  clear hbyte hnn
  by_cases t2 : y0 ≠ 200 ∨ y1 ≠ 2
  · have hr := HR1.out
    rw [if_pos t2] at hr
    subst hr
    clear HR1
    by_cases t3 : y0 = 200
    · have t4 : y1 ≠ 2 := by rcases t2 with h | h; exact absurd t3 h; exact h
      have r0 : (y0 != 200) = false := by simpa using t3
      have r1 : (y1 != 2) = true := by simpa using t4
      clear t2 t3 t4
      go_enter Tryz.func11, Tryz.ntmps11
      go_wp2_with fail
      exact bodyPost_ret (v := .tuple #[.agg #[.int .i64 0, .int .i64 0, .int .i64 0, .int .i64 0, .slice none 0 0], .int .i64 4]) (by simp [results, Tryz.results11, go_sem]) rfl ⟨⟨.slice none 0 0, [], rfl, Own.nil _ _ _, by simp, (by repeat (first | refine Upd.setCell _ ?_ (.inr (by simp)) | refine Upd.alloc _ ?_ | exact Upd.refl _ _))⟩⟩
    · have r0 : (y0 != 200) = true := by simpa using t3
      clear t2 t3
      go_enter Tryz.func11, Tryz.ntmps11
      go_wp2_with fail
      exact bodyPost_ret (v := .tuple #[.agg #[.int .i64 0, .int .i64 0, .int .i64 0, .int .i64 0, .slice none 0 0], .int .i64 4]) (by simp [results, Tryz.results11, go_sem]) rfl ⟨⟨.slice none 0 0, [], rfl, Own.nil _ _ _, by simp, (by repeat (first | refine Upd.setCell _ ?_ (.inr (by simp)) | refine Upd.alloc _ ?_ | exact Upd.refl _ _))⟩⟩
  have HR2 : Hid (_ = R) := (if_neg t2).symm.trans HR1.out
  have r0 : (y0 != 200) = false := by simp; exact Classical.byContradiction fun h => t2 (.inl h)
  have r1 : (y1 != 2) = false := by simp; exact Classical.byContradiction fun h => t2 (.inr h)
  clear HR1 t2
  by_cases t3 : (b.size : Int) < n
  · have hr := HR2.out
    rw [if_pos t3] at hr
    subst hr
    clear HR2
    go_enter Tryz.func11, Tryz.ntmps11
    go_wp2_with fail
    refine (HN2.out _).mono ?_
    rintro e w1 ⟨rfl, rfl⟩
    go_wp2_with fail
    exact bodyPost_ret (v := .tuple #[.agg #[.int .i64 0, .int .i64 0, .int .i64 0, .int .i64 0, .slice none 0 0], .int .i64 5]) (by simp [results, Tryz.results11, go_sem]) rfl ⟨⟨.slice none 0 0, [], rfl, Own.nil _ _ _, by simp, (by repeat (first | refine Upd.setCell _ ?_ (.inr (by simp)) | refine Upd.alloc _ ?_ | exact Upd.refl _ _))⟩⟩
  have HR3 : Hid (_ = R) := (if_neg t3).symm.trans HR2.out
  clear HR2
  by_cases t4 : (n : Int) < 12
  · have hr := HR3.out
    rw [if_pos t4] at hr
    subst hr
    clear HR3
    go_enter Tryz.func11, Tryz.ntmps11
    go_wp2_with fail
    refine (HN2.out _).mono ?_
    rintro e w1 ⟨rfl, rfl⟩
    go_wp2_with fail
    refine (HN2.out _).mono ?_
    rintro e w1 ⟨rfl, rfl⟩
    go_wp2_with fail
    exact bodyPost_ret (v := .tuple #[.agg #[.int .i64 0, .int .i64 0, .int .i64 0, .int .i64 0, .slice none 0 0], .int .i64 4]) (by simp [results, Tryz.results11, go_sem]) rfl ⟨⟨.slice none 0 0, [], rfl, Own.nil _ _ _, by simp, (by repeat (first | refine Upd.setCell _ ?_ (.inr (by simp)) | refine Upd.alloc _ ?_ | exact Upd.refl _ _))⟩⟩
  have HR4 : Hid (_ = R) := (if_neg t4).symm.trans HR3.out
  clear HR3
  obtain ⟨x, hx⟩ : ∃ x, b.extract 12 n = x := ⟨_, rfl⟩
  have hxz : x.size ≤ 400000 := by rw [← hx, ByteArray.size_extract]; omega
  rw [hx] at HR4
  have HG := Lib.hid (fun W => avpGet_any x secret W hxz hs)
  obtain ⟨l, e, hle⟩ : ∃ l e, getA x secret = (l, e) := ⟨_, _, rfl⟩
  rw [hle] at HR4 HG
  dsimp only at HR4 HG
  clear hle hxz
  by_cases t5 : e ≠ 0
  · have hr := HR4.out
    rw [if_pos t5] at hr
    subst hr
    clear HR4
    have t5' : (e != 0) = true := by simpa using t5
    go_enter Tryz.func11, Tryz.ntmps11
    go_wp2_with fail
    refine (HN2.out _).mono ?_
    rintro e w1 ⟨rfl, rfl⟩
    go_wp2_with fail
    refine (HN2.out _).mono ?_
    rintro e w1 ⟨rfl, rfl⟩
    go_wp2_with fail
    refine (HN2.out _).mono ?_
    rintro e w1 ⟨rfl, rfl⟩
    go_wp2_with fail
    have A0 := Blk.new w 24 #[.int .i64 0, .int .i64 0, .int .i64 0, .int .i64 0, .slice none 0 0]
    have U0 := Lib.hid ((Upd.refl [] w).alloc (Obj.cells #[.int .i64 0, .int .i64 0, .int .i64 0, .int .i64 0, .slice none 0 0] 24))
    refine (HG.out _).mono ?_
    rintro e w2 ⟨v, own, rfl, ho, hin, hu2⟩
    have HU2 := Lib.hid (U0.out.trans hu2)
    have B := A0.upd hu2 (by simp)
    have hlt := A0.lt
    have HIN : Hid (∀ k ∈ own, w.heap.size < k) := fun k hk => by have := hin k hk; simp at this; omega
    have HO := Lib.hid ho
    obtain ⟨ao, cap, rfl, -, -⟩ := ho.shape
    clear ho hin hu2 A0
    have c0 := B.cell 0
    have c1 := B.cell 1
    have c2 := B.cell 2
    have c3 := B.cell 3
    have c4 := B.cell 4
    have f0 := B.frozen 0
    have f1 := B.frozen 1
    have f2 := B.frozen 2
    have f3 := B.frozen 3
    have f4 := B.frozen 4
    simp only [List.size_toArray, List.length_cons, List.length_nil, List.getElem?_toArray, List.getElem?_cons_zero, List.getElem?_cons_succ] at c0 c1 c2 c3 c4
    clear B
    obtain ⟨ln, hln⟩ : ∃ ln, l.length = ln := ⟨_, rfl⟩
    have HLN := Lib.hid hln
    rw [hln] at HO ⊢
    clear hln
    go_wp2_with fail
    exact bodyPost_ret (v := .tuple #[.agg #[.int .i64 0, .int .i64 0, .int .i64 0, .int .i64 0, .slice none 0 0], .int .i64 e]) (by simp [results, Tryz.results11, go_sem, c0, c1, c2, c3, c4]) rfl ⟨⟨.slice none 0 0, [], rfl, Own.nil _ _ _, by simp, (by repeat (first | refine Upd.setCell _ ?_ (.inr (by simp)) | exact HU2.out))⟩⟩
  obtain rfl : e = 0 := Classical.not_not.1 t5
  have hr := HR4.out
  rw [if_neg (by simp)] at hr
  subst hr
  clear HR4 t5
  have hb4 := num_bd b 4 2
  generalize num b 4 2 = k4 at *
  generalize num b 6 2 = k6 at *
  generalize num b 8 2 = k8 at *
  generalize num b 10 2 = k10 at *
  go_enter Tryz.func11, Tryz.ntmps11
  go_wp2_with fail
  refine (HN2.out _).mono ?_
  rintro e w1 ⟨rfl, rfl⟩
  go_wp2_with fail
  refine (HN2.out _).mono ?_
  rintro e w1 ⟨rfl, rfl⟩
  go_wp2_with fail
  refine (HN2.out _).mono ?_
  rintro e w1 ⟨rfl, rfl⟩
  go_wp2_with fail
  have A0 := Blk.new w 24 #[.int .i64 0, .int .i64 0, .int .i64 0, .int .i64 0, .slice none 0 0]
  have U0 := Lib.hid ((Upd.refl [] w).alloc (Obj.cells #[.int .i64 0, .int .i64 0, .int .i64 0, .int .i64 0, .slice none 0 0] 24))
  refine (HG.out _).mono ?_
  rintro e w2 ⟨v, own, rfl, ho, hin, hu2⟩
  have HU2 := Lib.hid (U0.out.trans hu2)
  have B := A0.upd hu2 (by simp)
  have hlt := A0.lt
  have HIN : Hid (∀ k ∈ own, w.heap.size < k) := fun k hk => by have := hin k hk; simp at this; omega
  have HO := Lib.hid ho
  obtain ⟨ao, cap, rfl, -, -⟩ := ho.shape
  clear ho hin hu2 A0
  have c0 := B.cell 0
  have c1 := B.cell 1
  have c2 := B.cell 2
  have c3 := B.cell 3
  have c4 := B.cell 4
  have f0 := B.frozen 0
  have f1 := B.frozen 1
  have f2 := B.frozen 2
  have f3 := B.frozen 3
  have f4 := B.frozen 4
  simp only [List.size_toArray, List.length_cons, List.length_nil, List.getElem?_toArray, List.getElem?_cons_zero, List.getElem?_cons_succ] at c0 c1 c2 c3 c4
  clear B
  obtain ⟨ln, hln⟩ : ∃ ln, l.length = ln := ⟨_, rfl⟩
  have HLN := Lib.hid hln
  rw [hln] at HO ⊢
  clear hln
  go_wp2_with fail
  refine (HN4.out _).mono ?_
  rintro e w1 ⟨rfl, rfl⟩
  go_wp2_with fail
  refine (HN6.out _).mono ?_
  rintro e w1 ⟨rfl, rfl⟩
  go_wp2_with fail
  refine (HN8.out _).mono ?_
  rintro e w1 ⟨rfl, rfl⟩
  go_wp2_with fail
  refine (HN10.out _).mono ?_
  rintro e w1 ⟨rfl, rfl⟩
  go_wp2_with fail
  have hne : w.heap.size ∉ own := fun h => Nat.lt_irrefl _ (HIN.out _ h)
  exact bodyPost_ret (v := .tuple #[.agg #[.int .i64 k4, .int .i64 k6, .int .i64 k8, .int .i64 k10, .slice ao ln cap], .int .i64 0]) (by simp [results, Tryz.results11, go_sem, c0, c1, c2, c3, c4]) rfl ⟨⟨_, own, rfl, (by (try rw [HLN.out]); repeat (first | refine Own.setCell _ ?_ hne | exact HO.out)), fun k hk => Nat.le_of_lt (HIN.out k hk), (by repeat (first | refine Upd.setCell _ ?_ (.inr (by simp)) | exact HU2.out))⟩⟩

def isCtlB (b : ByteArray) : Bool := decide (b.size ≠ 0) && decide (128 ≤ byte b 0)
theorem and128 (x : Int) (h : 0 ≤ x ∧ x < 256) : (bits .and .u8 x 128 != 0) = decide (128 ≤ x) := by
  obtain ⟨m, rfl⟩ := Int.eq_ofNat_of_zero_le h.1
  have : ∀ m : Nat, m < 256 → (bits .and .u8 (m : Int) 128 != 0) = decide (128 ≤ (m : Int)) := by decide +kernel
  exact this m (by omega)
theorem isCtl_any (b : ByteArray) (hb : b.size ≤ maxLen) (w : World) :
    Calls Tryz.prog 32 #[.string b] w fun e w' => e = .returned (.bool (isCtlB b)) ∧ w = w' := by
  simp only [maxLen] at hb
  by_cases t : b.size = 0
  · have e0 := str_empty_t t
    have HQ : Hid (isCtlB b = false) := by show _ = _; simp [isCtlB, t]
    rw [HQ.out]
    clear t HQ
    go_enter Tryz.func32, Tryz.ntmps32
    go_wp2_with fail
    go_ret
    exact ⟨rfl, rfl⟩
  · have e0 := str_empty_f t
    have h0 : 0 < b.size := by omega
    have q0 := byte_get b 0 h0
    have HQ : Hid (isCtlB b = decide (128 ≤ byte b 0)) := by show _ = _; simp [isCtlB, t]
    rw [HQ.out]
    have qa := and128 (byte b 0) (byte_bd b 0)
    generalize byte b 0 = y at *
    clear t HQ
    go_enter Tryz.func32, Tryz.ntmps32
    go_wp2_with fail
    go_ret
    exact ⟨rfl, rfl⟩
end Go.Proofs.YtglafpdealjlnaaGreat
namespace Go.Proofs.YtglafpdealjlnaaGreat
open Go.RowKit
set_option linter.unusedSimpArgs false
set_option linter.unusedVariables false
set_option maxRecDepth 100000

def putM (c : Cm) (secret : ByteArray) : ByteArray × Int :=
  if ([c.t, c.s, c.ns, c.nr] : List Int).any overWord = true then (⟨#[]⟩, 1) else if (putA c.l secret).2 ≠ 0 then (⟨#[]⟩, (putA c.l secret).2) else (rawOf c.t c.s c.ns c.nr (putA c.l secret).1, 0)
set_option maxHeartbeats 4000000 in
theorem msgPutM_any (c : Cm) (v : Value) (secret : ByteArray) (w : World) (hl : AvsAt w v c.l) (hs : secret.size ≤ 400000) :
    Calls Tryz.prog 9 #[c.val v, .string secret] w fun e w' => e = .returned (.tuple #[.string (putM c secret).1, .int .i64 (putM c secret).2]) ∧ Upd [] w w' := by
  obtain ⟨t, s, ns, nr, l⟩ := c
  dsimp only at hl
  obtain ⟨ao, cap, rfl, -⟩ := id hl
  obtain ⟨R, hR⟩ : ∃ R, putM ⟨t, s, ns, nr, l⟩ secret = R := ⟨_, rfl⟩
  have HR : Hid ((if ([t, s, ns, nr] : List Int).any overWord = true then ((⟨#[]⟩ : ByteArray), (1 : Int)) else if (putA l secret).2 ≠ 0 then (⟨#[]⟩, (putA l secret).2) else (rawOf t s ns nr (putA l secret).1, 0)) = R) := hR
  rw [hR]
  clear hR
  simp only [Cm.val]
  obtain ⟨n, hn⟩ : ∃ n, l.length = n := ⟨_, rfl⟩
  rw [hn] at hl ⊢
  clear hn
  have HL := Lib.hid hl
  obtain ⟨A, hA⟩ : ∃ A, A = Obj.cells #[.int .i64 t, .int .i64 s, .int .i64 ns, .int .i64 nr, .slice ao n cap] 24 := ⟨_, rfl⟩
  have A0 : Blk (w.alloc A) w.heap.size 24 #[.int .i64 t, .int .i64 s, .int .i64 ns, .int .i64 nr, .slice ao n cap] := by rw [hA]; exact Blk.new _ _ _
  have U0 : Hid (Upd [] w (w.alloc A)) := (Upd.refl [] w).alloc A
  have HI : Hid (∀ W : World, IntsAt (W.alloc (.cells #[.int .i64 t, .int .i64 s, .int .i64 ns, .int .i64 nr] 3)) (.slice (some ⟨W.heap.size, 0, none⟩) 4 4) [t, s, ns, nr]) := fun W => IntsAt.of_blk (l := [t, s, ns, nr]) (Blk.new _ _ _) (by simp [maxLen])
  have HC : Hid (∀ W, Upd [] (w.alloc A) W → W.cell? ⟨w.heap.size, 0, none⟩ = some (.int .i64 t) ∧ W.cell? ⟨w.heap.size, 1, none⟩ = some (.int .i64 s) ∧ W.cell? ⟨w.heap.size, 2, none⟩ = some (.int .i64 ns) ∧ W.cell? ⟨w.heap.size, 3, none⟩ = some (.int .i64 nr) ∧ W.cell? ⟨w.heap.size, 4, none⟩ = some (.slice ao n cap)) := fun W hu =>
    ⟨(A0.upd hu (by simp)).cell 0, (A0.upd hu (by simp)).cell 1, (A0.upd hu (by simp)).cell 2, (A0.upd hu (by simp)).cell 3, (A0.upd hu (by simp)).cell 4⟩
  have HA := Lib.hid hA
  clear hA A0 hl
  have hc := HC.out _ (Upd.refl [] (w.alloc A))
  have hI := HI.out (w.alloc A)
  rw [show (w.alloc A).heap.size = w.heap.size + 1 by simp] at hI
  cases hw0 : ([t, s, ns, nr] : List Int).any overWord
  rotate_left
  · have hr := HR.out
    rw [if_pos hw0] at hr
    subst hr
    have HW0 := Lib.hid hw0
    clear HR hw0
    go_enter Tryz.func9, Tryz.ntmps9
    go_wp2_with fail
    rw [← HA.out]
    clear HA
    generalize w.alloc A = wA at *
    go_wp2_with fail
    refine (words_any [t, s, ns, nr] _ _ hI).mono ?_
    rintro e w1 ⟨rfl, hu1⟩
    rw [HW0.out]
    go_wp2_with fail
    go_ret2
    exact ⟨rfl, U0.out.trans (((Upd.refl _ _).alloc _).trans hu1)⟩
  have HR1 : Hid (_ = R) := (if_neg (by rw [hw0]; simp)).symm.trans HR.out
  have hrange : (0 ≤ t ∧ t < 65536) ∧ (0 ≤ s ∧ s < 65536) ∧ (0 ≤ ns ∧ ns < 65536) ∧ (0 ≤ nr ∧ nr < 65536) := by
    simp [overWord] at hw0
    omega
  have HW0 := Lib.hid hw0
  have HP := Lib.hid (fun W hW => avpPut_any l (.slice ao n cap) secret W (HL.out.upd hW) hs)
  have hpo := @putA_ok l secret
  obtain ⟨x, e, hxe⟩ : ∃ x e, putA l secret = (x, e) := ⟨_, _, rfl⟩
  rw [hxe] at HR1 HP hpo
  dsimp only at HR1 HP hpo
  clear hw0 HR hxe
  by_cases t1 : e ≠ 0
  · have hr := HR1.out
    rw [if_pos t1] at hr
    subst hr
    have t1' : (e != 0) = true := by simpa using t1
    clear HR1 hpo t1
    go_enter Tryz.func9, Tryz.ntmps9
    go_wp2_with fail
    rw [← HA.out]
    clear HA
    generalize w.alloc A = wA at *
    go_wp2_with fail
    refine (words_any [t, s, ns, nr] _ _ hI).mono ?_
    rintro e w1 ⟨rfl, hu1⟩
    have HU1 : Hid (Upd [] wA w1) := ((Upd.refl _ _).alloc _).trans hu1
    clear hu1 hc
    have hc := HC.out _ HU1.out
    rw [HW0.out]
    go_wp2_with fail
    refine (HP.out _ (U0.out.trans HU1.out)).mono ?_
    rintro e w2 ⟨rfl, hu2⟩
    go_wp2_with fail
    go_ret2
    exact ⟨rfl, U0.out.trans (HU1.out.trans hu2)⟩
  · obtain rfl : e = 0 := Classical.not_not.1 t1
    have hr := HR1.out
    rw [if_neg (by simp)] at hr
    subst hr
    have hxz : x.size ≤ 1488 := by have := hpo rfl; rw [this.2.2.1]; exact this.2.2.2
    have HRAW := Lib.hid (fun W => raw_any t s ns nr (.slice ao n cap) x ⟨hrange.1, hrange.2.1, hrange.2.2.1, hrange.2.2.2, by omega⟩ rfl W)
    generalize rawOf t s ns nr x = y at *
    clear HR1 hpo t1
    go_enter Tryz.func9, Tryz.ntmps9
    go_wp2_with fail
    rw [← HA.out]
    clear HA
    generalize w.alloc A = wA at *
    go_wp2_with fail
    refine (words_any [t, s, ns, nr] _ _ hI).mono ?_
    rintro e w1 ⟨rfl, hu1⟩
    have HU1 : Hid (Upd [] wA w1) := ((Upd.refl _ _).alloc _).trans hu1
    clear hu1 hc
    have hc := HC.out _ HU1.out
    rw [HW0.out]
    go_wp2_with fail
    refine (HP.out _ (U0.out.trans HU1.out)).mono ?_
    rintro e w2 ⟨rfl, hu2⟩
    have HU2 : Hid (Upd [] wA w2) := HU1.out.trans hu2
    clear hu2 hc
    have hc := HC.out _ HU2.out
    go_wp2_with fail
    refine (HRAW.out _).mono ?_
    rintro e w3 ⟨rfl, hu3⟩
    go_wp2_with fail
    go_ret2
    exact ⟨rfl, U0.out.trans (HU2.out.trans hu3)⟩
end Go.Proofs.YtglafpdealjlnaaGreat
namespace Go.Proofs.YtglafpdealjlnaaGreat
open Go.RowKit
set_option linter.unusedSimpArgs false
set_option linter.unusedVariables false

theorem wordsOf_pre : ∀ (l : List Int) (s t : ByteArray), wordsOf l (s ++ t) = s ++ wordsOf l t
  | [], s, t => rfl
  | n :: l, s, t => by rw [wordsOf, wordsOf, ByteArray.append_assoc, wordsOf_pre]
theorem wordsOf_cons (n : Int) (l : List Int) : wordsOf (n :: l) ⟨#[]⟩ = be 2 n ++ wordsOf l ⟨#[]⟩ := by
  rw [wordsOf]
  have h := wordsOf_pre l (be 2 n) ⟨#[]⟩
  have e : be 2 n ++ (⟨#[]⟩ : ByteArray) = be 2 n := ByteArray.append_empty
  have e' : (⟨#[]⟩ : ByteArray) ++ be 2 n = be 2 n := ByteArray.empty_append
  rw [e'] 
  rw [e] at h
  exact h
theorem num_words (a r : ByteArray) : ∀ (l : List Int) (i : Nat) (x : Int), l[i]? = some x → 0 ≤ x ∧ x < 65536 → num (a ++ (wordsOf l ⟨#[]⟩ ++ r)) (a.size + 2 * i) 2 = x
  | [], i, x, h, _ => by simp at h
  | n :: l, 0, x, h, hx => by
    simp at h; subst h
    rw [wordsOf_cons, ByteArray.append_assoc, num_append_r _ _ _ (by omega), show a.size + 2 * 0 - a.size = 0 by omega, num_append_l _ _ _ _ (by rw [be_size]; omega)]
    exact num_be 2 n (by simpa using hx)
  | n :: l, i + 1, x, h, hx => by
    have h2 : l[i]? = some x := by simpa using h
    have := num_words (a ++ be 2 n) r l i x h2 hx
    rw [wordsOf_cons]
    rw [ByteArray.size_append, be_size] at this
    rw [show a.size + 2 * (i + 1) = a.size + 2 + 2 * i by omega, ← this]
    simp only [ByteArray.append_assoc]
/-- Two bytes, words, and what stands behind them, read. -/
theorem laid_read (x y : Int) (l : List Int) (d more : ByteArray) (hx : 0 ≤ x ∧ x < 256) (hy : 0 ≤ y ∧ y < 256) (S : ByteArray) (hS : S = strOfNums [x, y] ++ wordsOf l ⟨#[]⟩ ++ d ++ more) :
    S.size = 2 + 2 * l.length + d.size + more.size ∧ byte S 0 = x ∧ byte S 1 = y ∧ (∀ i z, l[i]? = some z → 0 ≤ z ∧ z < 65536 → num S (2 + 2 * i) 2 = z) ∧ S.extract (2 + 2 * l.length) (2 + 2 * l.length + d.size) = d := by
  have hz : (strOfNums [x, y]).size = 2 := strOfNums_size _
  have hw : (wordsOf l ⟨#[]⟩).size = 2 * l.length := by rw [wordsOf_size]; show 0 + _ = _; omega
  have hb : ∀ i, i < 2 → byte S i = byte (strOfNums [x, y]) i := fun i hi => by
    rw [hS, append_byte_l _ _ _ (by rw [ByteArray.size_append, ByteArray.size_append]; omega), append_byte_l _ _ _ (by rw [ByteArray.size_append]; omega), append_byte_l _ _ _ (by omega)]
  refine ⟨?_, ?_, ?_, ?_, ?_⟩
  · rw [hS, ByteArray.size_append, ByteArray.size_append, ByteArray.size_append, hz, hw]
  · rw [hb 0 (by omega)]
    simp [byte, strOfNums]
    omega
  · rw [hb 1 (by omega)]
    simp [byte, strOfNums]
    omega
  · intro i z hi hzz
    have := num_words (strOfNums [x, y]) (d ++ more) l i z hi hzz
    rw [hz] at this
    rw [hS, ByteArray.append_assoc, ByteArray.append_assoc, this]
  · rw [hS]
    rw [extract_app_left _ _ _ _ (by rw [ByteArray.size_append, ByteArray.size_append, hz, hw]; omega)]
    exact ByteArray.extract_append_eq_right (by rw [ByteArray.size_append, hz, hw]) (by rw [ByteArray.size_append, hz, hw])

theorem getM_putM {c : Cm} {secret : ByteArray} (h : (putM c secret).2 = 0) (more : ByteArray) : getM ((putM c secret).1 ++ more) secret = (c, 0) := by
  obtain ⟨t, s, ns, nr, l⟩ := c
  unfold putM at h ⊢
  dsimp only at h ⊢
  by_cases t1 : ([t, s, ns, nr] : List Int).any overWord = true
  · rw [if_pos t1] at h; cases h
  rw [if_neg t1] at h ⊢
  by_cases t2 : (putA l secret).2 ≠ 0
  · rw [if_pos t2] at h; exact absurd h t2
  rw [if_neg t2]
  have t3 := Classical.not_not.1 t2
  have hg := getA_put t3
  obtain ⟨-, -, h3, h4⟩ := putA_ok t3
  rw [← h3] at h4
  generalize (putA l secret).1 = x at *
  have hr : (0 ≤ t ∧ t < 65536) ∧ (0 ≤ s ∧ s < 65536) ∧ (0 ≤ ns ∧ ns < 65536) ∧ (0 ≤ nr ∧ nr < 65536) := by
    simp [overWord] at t1
    omega
  obtain ⟨g1, g2, g3, g4, g5⟩ := laid_read 200 2 [(x.size : Int) + 12, t, s, ns, nr] x more (by omega) (by omega) (rawOf t s ns nr x ++ more) rfl
  have k0 := g4 0 _ rfl (by omega)
  have k1 := g4 1 _ rfl hr.1
  have k2 := g4 2 _ rfl hr.2.1
  have k3 := g4 3 _ rfl hr.2.2.1
  have k4 := g4 4 _ rfl hr.2.2.2
  simp only [List.length_cons, List.length_nil, Nat.reduceAdd, Nat.reduceMul, Nat.mul_zero] at g1 g5 k0 k1 k2 k3 k4
  dsimp only
  generalize rawOf t s ns nr x ++ more = S at *
  unfold getM
  rw [if_neg (by omega), if_neg (by rw [g2, g3]; simp), k0, k1, k2, k3, k4, if_neg (by omega), if_neg (by omega), show ((x.size : Int) + 12).toNat = 12 + x.size by omega, g5, hg, if_neg (by simp)]
end Go.Proofs.YtglafpdealjlnaaGreat
