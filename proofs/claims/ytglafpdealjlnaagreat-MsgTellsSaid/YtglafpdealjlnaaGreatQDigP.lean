/- Plain: the digest MD5, and what is told by it, over words of 32 bits. No program in sight. -/
import Derived.Test.YtglafpdealjlnaaGreatQLib
namespace Go.Proofs.YtglafpdealjlnaaGreat
open Go.RowKit
set_option linter.unusedSimpArgs false

abbrev U := BitVec 32
def rotU (x : U) (n : Nat) : U := x <<< n ||| x >>> (32 - n)
def tabL : List Nat := [3614090360, 3905402710, 606105819, 3250441966, 4118548399, 1200080426, 2821735955, 4249261313, 1770035416, 2336552879, 4294925233, 2304563134, 1804603682, 4254626195, 2792965006, 1236535329, 4129170786, 3225465664, 643717713, 3921069994, 3593408605, 38016083, 3634488961, 3889429448, 568446438, 3275163606, 4107603335, 1163531501, 2850285829, 4243563512, 1735328473, 2368359562, 4294588738, 2272392833, 1839030562, 4259657740, 2763975236, 1272893353, 4139469664, 3200236656, 681279174, 3936430074, 3572445317, 76029189, 3654602809, 3873151461, 530742520, 3299628645, 4096336452, 1126891415, 2878612391, 4237533241, 1700485571, 2399980690, 4293915773, 2240044497, 1873313359, 4264355552, 2734768916, 1309151649, 4149444226, 3174756917, 718787259, 3951481745]
def tabU (i : Nat) : U := BitVec.ofNat 32 ((tabL[i]?).getD 0)
def turnL : List Nat := [7, 12, 17, 22, 5, 9, 14, 20, 4, 11, 16, 23, 6, 10, 15, 21]
def turnN (i : Nat) : Nat := (turnL[i / 16 * 4 + i % 4]?).getD 0
def mixF (i : Nat) (b c d : U) : U := if i < 16 then b &&& c ||| ~~~b &&& d else if i < 32 then b &&& d ||| c &&& ~~~d else if i < 48 then b ^^^ c ^^^ d else c ^^^ (b ||| ~~~d)
def mixK (i : Nat) : Nat := if i < 16 then i else if i < 32 then (5 * i + 1) % 16 else if i < 48 then (3 * i + 5) % 16 else 7 * i % 16
structure Q4 where
  a : U
  b : U
  c : U
  d : U
def stepU (w : Nat → U) (i : Nat) (s : Q4) : Q4 := ⟨s.d, s.b + rotU (s.a + mixF i s.b s.c s.d + tabU i + w (mixK i)) (turnN i), s.b, s.c⟩
def stepsU (w : Nat → U) (s : Q4) : Nat → Q4
  | 0 => s
  | n + 1 => stepU w n (stepsU w s n)
def onU (s : Q4) (w : Nat → U) : Q4 := let r := stepsU w s 64; ⟨s.a + r.a, s.b + r.b, s.c + r.c, s.d + r.d⟩
/-- The words of the block that begins at o, when n bytes of it are in. -/
def wordsU (b : ByteArray) (o : Nat) : Nat → Nat → U
  | 0 => fun _ => 0
  | n + 1 => fun j => if j = n / 4 then wordsU b o n j ||| BitVec.ofNat 32 (b.data[o + n]?.getD 0).toNat <<< (8 * (n % 4)) else wordsU b o n j
def initU : Q4 := ⟨1732584193#32, 4023233417#32, 2562383102#32, 271733878#32⟩
def blocksU (b : ByteArray) : Nat → Q4
  | 0 => initU
  | k + 1 => onU (blocksU b k) (wordsU b (64 * k) 64)
/-- How many zeros stand behind the mark. -/
def zerosN (n : Nat) : Nat := (119 - n % 64) % 64
theorem zerosN_spec (n : Nat) : (n + 1 + zerosN n) % 64 = 56 ∧ zerosN n < 64 := by unfold zerosN; omega
theorem zerosN_least (n k : Nat) (h : k < zerosN n) : (n + 1 + k) % 64 ≠ 56 := by unfold zerosN at h; omega
def tailL (n : Nat) : List Int := 128 :: List.replicate (zerosN n) 0 ++ (List.range 8).map (fun i => ((n * 8 / 256 ^ i % 256 : Nat) : Int))
theorem tailL_length (n : Nat) : (tailL n).length = 9 + zerosN n := by simp [tailL]; omega
def padB (b : ByteArray) : ByteArray := b ++ strOfNums (tailL b.size)
theorem padB_size (b : ByteArray) : (padB b).size = b.size + (9 + zerosN b.size) := by rw [padB, ByteArray.size_append, strOfNums_size, tailL_length]
def blocksN (n : Nat) : Nat := (n + 9 + zerosN n) / 64
theorem blocksN_spec (n : Nat) : 64 * blocksN n = n + (9 + zerosN n) := by unfold blocksN zerosN; omega
def Q4.get (s : Q4) (i : Nat) : U := if i = 0 then s.a else if i = 1 then s.b else if i = 2 then s.c else s.d
/-- Byte i of the digest. -/
def md5At (b : ByteArray) (i : Nat) : Nat := ((blocksU (padB b) (blocksN b.size)).get (i / 4)).toNat / 2 ^ (8 * (i % 4)) % 256
theorem md5At_lt (b : ByteArray) (i : Nat) : md5At b i < 256 := Nat.mod_lt _ (by decide)
def md5L (b : ByteArray) : List Int := (List.range 16).map (fun i => (md5At b i : Int))

/-! ### masks -/
/-- A piece, each byte turned by the digest's. -/
def xorB (s d : ByteArray) : ByteArray := strOfNums ((List.range s.size).map fun i => ((((s.data[i]?).getD 0).toNat ^^^ md5At d i : Nat) : Int))
theorem xorB_size (s d : ByteArray) : (xorB s d).size = s.size := by simp [xorB, strOfNums_size]
/-- Masked (un: unmasked), with this key for the first piece. -/
def maskL (un : Bool) (secret : ByteArray) : Nat → ByteArray → ByteArray → ByteArray
  | 0, _, _ => ⟨#[]⟩
  | f + 1, key, v => if v.size = 0 then ⟨#[]⟩ else
    let i := v.extract 0 (min 16 v.size)
    let o := xorB i key
    o ++ maskL un secret f (secret ++ (if un = true then i else o)) (v.extract (min 16 v.size) v.size)
theorem maskL_more (un : Bool) (secret : ByteArray) : ∀ (f g : Nat) (key v : ByteArray), v.size ≤ f → v.size ≤ g → maskL un secret f key v = maskL un secret g key v
  | 0, g, key, v, h1, h2 => by
    cases g with
    | zero => rfl
    | succ g => rw [maskL, maskL, if_pos (by omega)]
  | f + 1, 0, key, v, h1, h2 => by rw [maskL, maskL, if_pos (by omega)]
  | f + 1, g + 1, key, v, h1, h2 => by
    rw [maskL, maskL]
    by_cases h : v.size = 0
    · rw [if_pos h, if_pos h]
    · rw [if_neg h, if_neg h]
      dsimp only
      rw [maskL_more un secret f g _ _ (by rw [ByteArray.size_extract]; omega) (by rw [ByteArray.size_extract]; omega)]
theorem maskL_size (un : Bool) (secret : ByteArray) : ∀ (f : Nat) (key v : ByteArray), v.size ≤ f → (maskL un secret f key v).size = v.size
  | 0, key, v, h => by rw [maskL]; have : v.size = 0 := by omega
                       rw [this]; rfl
  | f + 1, key, v, h => by
    rw [maskL]
    by_cases h0 : v.size = 0
    · rw [if_pos h0, h0]; rfl
    · rw [if_neg h0]
      dsimp only
      rw [ByteArray.size_append, xorB_size, maskL_size un secret f _ _ (by rw [ByteArray.size_extract]; omega), ByteArray.size_extract, ByteArray.size_extract]
      omega
def keyB (kind : Int) (secret vector : ByteArray) : ByteArray := strOfNums [kind / 256, kind % 256] ++ secret ++ vector
def maskB (un : Bool) (kind : Int) (secret vector v : ByteArray) : ByteArray := maskL un secret v.size (keyB kind secret vector) v
theorem maskB_size (un : Bool) (kind : Int) (secret vector v : ByteArray) : (maskB un kind secret vector v).size = v.size := maskL_size _ _ _ _ _ (Nat.le_refl _)
theorem xor_lt256 {a b : Nat} (ha : a < 256) (hb : b < 256) : a ^^^ b < 256 := Nat.xor_lt_two_pow (n := 8) ha hb
theorem xorB_get (s d : ByteArray) (i : Nat) (h : i < s.size) : (xorB s d).data[i]? = some (UInt8.ofNat (((s.data[i]?).getD 0).toNat ^^^ md5At d i)) := by
  simp [xorB, strOfNums, h]
theorem xorB_twice (s d : ByteArray) : xorB (xorB s d) d = s := by
  apply ByteArray.ext
  apply Array.ext
  · show (xorB (xorB s d) d).size = s.size
    rw [xorB_size, xorB_size]
  · intro i h1 h2
    have e := xorB_get (xorB s d) d i (by rw [xorB_size]; exact h2)
    rw [xorB_get s d i h2, Option.getD_some] at e
    have hlt : ((s.data[i]?).getD 0).toNat < 256 := ((s.data[i]?).getD 0).toNat_lt
    have e2 : (UInt8.ofNat (((s.data[i]?).getD 0).toNat ^^^ md5At d i)).toNat = ((s.data[i]?).getD 0).toNat ^^^ md5At d i := by
      rw [UInt8.toNat_ofNat']
      exact Nat.mod_eq_of_lt (xor_lt256 hlt (md5At_lt d i))
    rw [e2, Nat.xor_assoc, Nat.xor_self, Nat.xor_zero, UInt8.ofNat_toNat, Array.getElem?_eq_getElem h1, Array.getElem?_eq_getElem h2] at e
    injection e
theorem unmask_mask (un : Bool) (secret : ByteArray) : ∀ (f : Nat) (key v : ByteArray), v.size ≤ f → maskL (!un) secret f key (maskL un secret f key v) = v
  | 0, key, v, h => by
    rw [maskL]
    apply ByteArray.ext
    exact (Array.eq_empty_of_size_eq_zero (show v.data.size = 0 from by have : v.data.size = v.size := rfl; omega)).symm
  | f + 1, key, v, h => by
    have hs := maskL_size un secret (f + 1) key v h
    rw [maskL]
    by_cases h0 : v.size = 0
    · rw [if_pos (by omega)]
      apply ByteArray.ext
      exact (Array.eq_empty_of_size_eq_zero (show v.data.size = 0 from h0)).symm
    · rw [if_neg (by omega)]
      obtain ⟨m, hm⟩ : ∃ m, m = min 16 v.size := ⟨_, rfl⟩
      rw [hs, ← hm]
      rw [maskL, if_neg h0, ← hm]
      dsimp only
      obtain ⟨i, hi⟩ : ∃ i, i = v.extract 0 m := ⟨_, rfl⟩
      have his : i.size = m := by rw [hi, ByteArray.size_extract]; omega
      rw [← hi]
      obtain ⟨R, hR⟩ : ∃ R, R = maskL un secret f (secret ++ (if un = true then i else xorB i key)) (v.extract m v.size) := ⟨_, rfl⟩
      have hRs : R.size = v.size - m := by rw [hR, maskL_size _ _ _ _ _ (by rw [ByteArray.size_extract]; omega), ByteArray.size_extract]; omega
      rw [← hR, ByteArray.extract_append_eq_left (by rw [xorB_size, his]), ByteArray.extract_append_eq_right (by rw [xorB_size, his]) (by rw [xorB_size, his, hRs]; omega), xorB_twice]
      have hk : (if (!un) = true then xorB i key else i) = if un = true then i else xorB i key := by cases un <;> rfl
      rw [hk, hR, unmask_mask un secret f _ _ (by rw [ByteArray.size_extract]; omega), hi, ByteArray.extract_append_extract]
      rw [Nat.min_eq_left (Nat.zero_le _), Nat.max_eq_right (by omega), ByteArray.extract_zero_size]
theorem unmaskB_maskB (un : Bool) (kind : Int) (secret vector v : ByteArray) : maskB (!un) kind secret vector (maskB un kind secret vector v) = v := by
  unfold maskB
  rw [maskL_size _ _ _ _ _ (Nat.le_refl _)]
  exact unmask_mask un secret _ _ _ (Nat.le_refl _)
end Go.Proofs.YtglafpdealjlnaaGreat
