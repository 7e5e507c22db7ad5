/- Plain: what an end says is heard as it was said; the channel's steps of a handshake. No program in sight. Plain: the messages of a handshake, looked over; an end's steps. No program in sight. Plain: an end takes a message. No program in sight. Plain: two ends, of which one opened, meet. No program in sight. -/
import Derived.Test.YtolfjfkkbhbbbaaGreatQTunY
import Derived.Test.YtolfjfkkbhbbbaaGreatQMsgH
namespace Go.Proofs.YtolfjfkkbhbbbaaGreat
open Go.RowKit
set_option linter.unusedSimpArgs false
set_option linter.unusedVariables false

/-- Values that stand in the open, in bounds. -/
structure Clear (l : List Av) : Prop where
  ne : l ≠ []
  len : l.length ≤ 9
  each : ∀ a ∈ l, a.vendor = 0 ∧ (0 ≤ a.kind ∧ a.kind ≤ 65535) ∧ a.hidden = false ∧ a.val.size ≤ 100
def encC : List Av → ByteArray
  | [] => ⟨#[]⟩
  | a :: r => encA a a.val ++ encC r
theorem encC_size : ∀ (l : List Av), (∀ a ∈ l, a.val.size ≤ 100) → 6 * l.length ≤ (encC l).size ∧ (encC l).size ≤ 106 * l.length
  | [], _ => ⟨Nat.zero_le _, Nat.zero_le _⟩
  | a :: r, h => by
    have h1 := encC_size r (fun x hx => h x (List.mem_cons_of_mem _ hx))
    have h2 := h a List.mem_cons_self
    simp only [encC, ByteArray.size_append, encA_size, List.length_cons]
    omega
theorem putFromA_clear (secret : ByteArray) : ∀ (r pre : List Av) (out : ByteArray), (∀ a ∈ r, a.vendor = 0 ∧ (0 ≤ a.kind ∧ a.kind ≤ 65535) ∧ a.hidden = false ∧ a.val.size ≤ 100) → out.size + (encC r).size ≤ 1488 →
    putFromA secret pre r out = (out ++ encC r, 0)
  | [], pre, out, _, hs => by
    simp only [encC] at hs ⊢
    rw [putFromA, if_neg (by have : ByteArray.size ⟨#[]⟩ = 0 := rfl; omega), show (⟨#[]⟩ : ByteArray) = ByteArray.empty from rfl, ByteArray.append_empty]
  | a :: r, pre, out, h, hs => by
    obtain ⟨h1, h2, h3, h4⟩ := h a List.mem_cons_self
    have hc : contentA a pre secret = (a.val, 0) := by
      rw [contentA, if_neg (by simp [h1, h2]), if_neg (by omega), if_pos h3]
    rw [putFromA, hc, if_neg (by simp)]
    dsimp only
    rw [encC, ByteArray.size_append] at hs
    rw [putFromA_clear secret r _ _ (fun x hx => h x (List.mem_cons_of_mem _ hx)) (by rw [ByteArray.size_append]; omega), encC, ByteArray.append_assoc]
theorem putA_clear {l : List Av} (h : Clear l) (secret : ByteArray) : putA l secret = (encC l, 0) := by
  have hz := encC_size l (fun a ha => (h.each a ha).2.2.2)
  have hl := h.len
  rw [putA, if_neg (by omega), putFromA_clear secret l [] _ h.each (by show 0 + _ ≤ _; omega), show (⟨#[]⟩ : ByteArray) = ByteArray.empty from rfl, ByteArray.empty_append]
theorem Clear.pos {l : List Av} (h : Clear l) : 6 ≤ (encC l).size ∧ (encC l).size ≤ 954 := by
  have hz := encC_size l (fun a ha => (h.each a ha).2.2.2)
  have hl := h.len
  have : 0 < l.length := List.length_pos_iff.2 h.ne
  omega
/-- A message's body in the channel. -/
def bodyC (s : Int) (l : List Av) : ByteArray := be 2 s ++ encC l
theorem bodyC_size {l : List Av} (h : Clear l) (s : Int) : 8 ≤ (bodyC s l).size ∧ (bodyC s l).size ≤ 1500 := by
  have := h.pos
  rw [bodyC, ByteArray.size_append, be_size]
  omega
theorem raw_parts (t s ns nr : Int) (x : ByteArray) (hx : x.size ≤ 60000) : num (rawOf t s ns nr x) 2 2 = (x.size : Int) + 12 ∧ (rawOf t s ns nr x).extract 12 (12 + x.size) = x := by
  obtain ⟨g1, g2, g3, g4, g5⟩ := laid_read 200 2 [(x.size : Int) + 12, t, s, ns, nr] x ByteArray.empty (by omega) (by omega) (rawOf t s ns nr x) (by rw [ByteArray.append_empty]; rfl)
  exact ⟨g4 0 _ rfl (by omega), g5⟩
structure Words (id s ns nr : Int) : Prop where
  id : 0 ≤ id ∧ id < 65536
  s : 0 ≤ s ∧ s < 65536
  ns : 0 ≤ ns ∧ ns < 65536
  nr : 0 ≤ nr ∧ nr < 65536
theorem Words.over {id s ns nr : Int} (h : Words id s ns nr) : ¬ ([id, s, ns, nr] : List Int).any overWord = true := by
  obtain ⟨h1, h2, h3, h4⟩ := h
  simp [overWord]
  omega
theorem raw_get {id s ns nr : Int} (h : Words id s ns nr) {l : List Av} {x secret : ByteArray} (hp : putA l secret = (x, 0)) : getM (rawOf id s ns nr x) secret = (⟨id, s, ns, nr, l⟩, 0) := by
  have hm : putM ⟨id, s, ns, nr, l⟩ secret = (rawOf id s ns nr x, 0) := by
    rw [putM, if_neg h.over]
    dsimp only
    rw [hp, if_neg (by simp)]
  have hg := getM_putM (c := ⟨id, s, ns, nr, l⟩) (secret := secret) (by rw [hm]) ByteArray.empty
  rw [hm, ByteArray.append_empty] at hg
  exact hg
theorem say_clear {id s ns nr : Int} (h : Words id s ns nr) {l : List Av} (hl : Clear l) : sayM id ⟨ns, nr, bodyC s l⟩ = rawOf id s ns nr (encC l) := by
  have hz := bodyC_size hl s
  obtain ⟨b1, b2, b3⟩ := be2_extract (encC l) s h.s
  have hn : num (bodyC s l) 0 2 = (0 * 256 + byte (bodyC s l) 0) * 256 + byte (bodyC s l) 1 := rfl
  rw [sayM, if_neg (by dsimp only; omega)]
  dsimp only
  rw [show (bodyC s l).size = 2 + (encC l).size from b1, show (bodyC s l).extract 2 (2 + (encC l).size) = encC l from b3]
  rw [show num (bodyC s l) 0 2 = s from b2] at hn
  rw [show byte (bodyC s l) 0 * 256 + byte (bodyC s l) 1 = s by omega]
theorem take_clear {id s ns nr : Int} (h : Words id s ns nr) {l : List Av} (hl : Clear l) (T : Tn) (h4 : T.state ≠ 4) :
    T.take (sayM id ⟨ns, nr, bodyC s l⟩) = T.takeM ⟨id, s, ns, nr, l⟩ (bodyC s l) := by
  have hz := hl.pos
  rw [say_clear h hl, Tn.take, if_neg h4, raw_get h (putA_clear hl T.secret), if_neg (by simp)]
  obtain ⟨r1, r2⟩ := raw_parts id s ns nr (encC l) (by omega)
  dsimp only
  rw [bodyM, r1, if_neg (by omega), show ((encC l).size + 12 : Int).toNat = 12 + (encC l).size by omega, r2]
  rfl
theorem putA_nil (secret : ByteArray) : putA [] secret = (⟨#[]⟩, 0) := by
  rw [putA, if_neg (by simp), putFromA, if_neg (by show ¬ 1488 < 0; omega)]
theorem take_ack {id ns nr : Int} (h : Words id 0 ns nr) (T : Tn) (h4 : T.state ≠ 4) :
    T.take (sayM id ⟨ns, nr, ⟨#[]⟩⟩) = T.takeM ⟨id, 0, ns, nr, []⟩ ⟨#[]⟩ := by
  have hs : sayM id ⟨ns, nr, ⟨#[]⟩⟩ = rawOf id 0 ns nr ⟨#[]⟩ := by rw [sayM]; exact if_pos (rfl : ByteArray.size ⟨#[]⟩ = 0)
  obtain ⟨r1, r2⟩ := raw_parts id 0 ns nr ⟨#[]⟩ (Nat.zero_le _)
  rw [hs, Tn.take, if_neg h4, raw_get h (putA_nil T.secret), if_neg (by simp)]
  dsimp only
  rw [bodyM, r1, if_pos (show ((ByteArray.size ⟨#[]⟩ : Nat) : Int) + 12 = 12 from rfl)]
theorem send_clear {l : List Av} (hl : Clear l) (T : Tn) (s : Int) : T.send s l = ({ T with way := (T.way.send (bodyC s l)).1 }, (T.way.send (bodyC s l)).2) := by
  rw [Tn.send, putA_clear hl, if_neg (by simp)]
  rfl

/-! ### the channel -/
/-- A channel of the law's ends at rest. -/
def chn (sent came : Int) (waits flies : List ByteArray) (room count : Int) (owed : Bool) : C :=
  ⟨4, 10, 3, 3, sent, came, waits, flies, room, 4, count, 0, 0, false, owed, false, true⟩
theorem chn_send {x : ByteArray} (hx : 8 ≤ x.size ∧ x.size ≤ 1500) (sent came room count : Int) (flies : List ByteArray) (owed : Bool) :
    (chn sent came [] flies room count owed).send x = (chn sent came [x] flies room count owed, 0) := by
  unfold C.send chn
  rw [if_neg (by simp), if_neg (by omega), if_neg (by simp)]
  rfl
theorem chn_out {sent came room count : Int} (x : ByteArray) (owed : Bool) (hr : 1 ≤ room) :
    (chn sent came [x] [] room count owed).out = (chn ((sent + 1) % 65536) came [] [x] room count false, [⟨sent, came, x⟩]) := by
  unfold C.out chn
  rw [if_neg (by simp)]
  simp only [C.outAgain, C.outEnd, List.length_cons, List.length_nil, Nat.zero_add]
  rw [C.outLoop, if_pos (by simp; omega)]
  simp [C.outLoop, C.fly, C.flyItem, hd]
theorem chn_out_owed {sent came room count : Int} (flies : List ByteArray) : (chn sent came [] flies room count true).out = (chn sent came [] flies room count false, [⟨sent, came, ⟨#[]⟩⟩]) := by
  unfold C.out chn
  rw [if_neg (by simp)]
  simp [C.outAgain, C.outEnd, C.outLoop]
  rfl
theorem chn_out_none {sent came room count : Int} (flies : List ByteArray) : (chn sent came [] flies room count false).out = (chn sent came [] flies room count false, []) := by
  unfold C.out chn
  rw [if_neg (by simp)]
  simp [C.outAgain, C.outEnd, C.outLoop]
end Go.Proofs.YtolfjfkkbhbbbaaGreat
namespace Go.Proofs.YtolfjfkkbhbbbaaGreat
open Go.RowKit
set_option linter.unusedSimpArgs false
set_option linter.unusedVariables false

/-- A message that says who an end is, with more values behind. -/
def lstC (k : Int) (nm : ByteArray) (cid : Int) (rest : List Av) : List Av :=
  numAv 0 k 2 :: numAv 2 256 2 :: numAv 3 3 4 :: txtAv 7 nm :: numAv 9 cid 2 :: numAv 10 4 2 :: rest
theorem valueB_be2 (v : Int) (h : 0 ≤ v ∧ v < 65536) : valueB (be 2 v) = (v, true) := by
  rw [valueB, if_neg (by rw [be_size]; omega), be_size, num_be 2 v (by simpa using h)]
theorem find_hit (k : Int) (s : ByteArray) (l : List Av) : findAv k (txtAv k s :: l) = (s, true) := by
  rw [findAv, List.find?_cons]
  have : avIs k (txtAv k s) = true := by simp [avIs, txtAv]
  rw [this]; rfl
theorem find_hitN (k v : Int) (n : Nat) (l : List Av) : findAv k (numAv k v n :: l) = (be n v, true) := by
  rw [findAv, List.find?_cons]
  have : avIs k (numAv k v n) = true := by simp [avIs, numAv]
  rw [this]; rfl
theorem find_skip (k j : Int) (s : ByteArray) (l : List Av) (h : j ≠ k) : findAv k (txtAv j s :: l) = findAv k l := by
  rw [findAv, List.find?_cons]
  have : avIs k (txtAv j s) = false := by simp [avIs, txtAv, h]
  rw [this]; rfl
theorem find_skipN (k j v : Int) (n : Nat) (l : List Av) (h : j ≠ k) : findAv k (numAv j v n :: l) = findAv k l := by
  rw [findAv, List.find?_cons]
  have : avIs k (numAv j v n) = false := by simp [avIs, numAv, h]
  rw [this]; rfl
theorem find_nil (k : Int) : findAv k [] = (⟨#[]⟩, false) := rfl
theorem kind_num (k : Int) (h : 0 ≤ k ∧ k < 65536) (l : List Av) : kindOf (numAv 0 k 2 :: l) = k := by
  show (if (numAv 0 k 2).vendor ≠ 0 ∨ (numAv 0 k 2).kind ≠ 0 ∨ (numAv 0 k 2).hidden = true ∨ (numAv 0 k 2).val.size ≠ 2 then -1 else num (numAv 0 k 2).val 0 2) = k
  rw [if_neg (by simp [numAv, be_size])]
  exact num_be 2 k (by simpa using h)
theorem wrong_num (k v : Int) (n : Nat) (h : avpLen k = n) (h0 : k ≠ 0) : wrongAv (numAv k v n) = 0 := by
  unfold wrongAv numAv
  dsimp only
  rw [h, if_neg (by rintro (h | h); exact h rfl; omega), if_neg]
  rintro (⟨-, h⟩ | h)
  · rw [be_size] at h; exact h rfl
  · exact h0 h
theorem wrong_txt (k : Int) (s : ByteArray) (h : avpLen k = -1 ∨ avpLen k = s.size) (h0 : k ≠ 0) : wrongAv (txtAv k s) = 0 := by
  unfold wrongAv txtAv
  dsimp only
  rw [if_neg (by rintro (h1 | h1); exact h1 rfl; omega), if_neg]
  rintro (⟨h1, h2⟩ | h1)
  · omega
  · exact h0 h1
theorem badOf_cons {a : Av} {r : List Av} (h : wrongAv a = 0) : badOf (a :: r) = badOf r := by rw [badOf, if_pos h]
section
variable (k : Int) (nm : ByteArray) (cid : Int) (rest : List Av)
theorem lstC_num9 (h : 0 ≤ cid ∧ cid < 65536) : numberAv (lstC k nm cid rest) 9 = (cid, true) := by
  have hf : findAv 9 (lstC k nm cid rest) = (be 2 cid, true) := by
    rw [lstC, find_skipN _ _ _ _ _ (by decide), find_skipN _ _ _ _ _ (by decide), find_skipN _ _ _ _ _ (by decide), find_skip _ _ _ _ (by decide), find_hitN]
  rw [numberAv, hf, if_neg (by simp [be_size]), valueB_be2 cid h]
theorem lstC_num10 : numberAv (lstC k nm cid rest) 10 = (4, true) := by
  have hf : findAv 10 (lstC k nm cid rest) = (be 2 4, true) := by
    rw [lstC, find_skipN _ _ _ _ _ (by decide), find_skipN _ _ _ _ _ (by decide), find_skipN _ _ _ _ _ (by decide), find_skip _ _ _ _ (by decide), find_skipN _ _ _ _ _ (by decide), find_hitN]
  rw [numberAv, hf, if_neg (by simp [be_size]), valueB_be2 4 (by omega)]
theorem lstC_find7 : findAv 7 (lstC k nm cid rest) = (nm, true) := by
  rw [lstC, find_skipN _ _ _ _ _ (by decide), find_skipN _ _ _ _ _ (by decide), find_skipN _ _ _ _ _ (by decide), find_hit]
theorem lstC_find (j : Int) (h : j ≠ 0 ∧ j ≠ 2 ∧ j ≠ 3 ∧ j ≠ 7 ∧ j ≠ 9 ∧ j ≠ 10) : findAv j (lstC k nm cid rest) = findAv j rest := by
  obtain ⟨h0, h2, h3, h7, h9, h10⟩ := h
  rw [lstC, find_skipN _ _ _ _ _ (Ne.symm h0), find_skipN _ _ _ _ _ (Ne.symm h2), find_skipN _ _ _ _ _ (Ne.symm h3), find_skip _ _ _ _ (Ne.symm h7), find_skipN _ _ _ _ _ (Ne.symm h9), find_skipN _ _ _ _ _ (Ne.symm h10)]
theorem lstC_kind (h : 0 ≤ k ∧ k < 65536) : kindOf (lstC k nm cid rest) = k := kind_num k h _
theorem lstC_check (h : k = 1 ∨ k = 2) (hb : badOf rest = 0) : checkOf (lstC k nm cid rest) = 0 := by
  have hk := lstC_kind k nm cid rest (by omega)
  have hn : needsOf k = some [2, 3, 7, 9] := by rcases h with rfl | rfl <;> decide
  have hbad : badOf (numAv 2 256 2 :: numAv 3 3 4 :: txtAv 7 nm :: numAv 9 cid 2 :: numAv 10 4 2 :: rest) = 0 := by
    rw [badOf_cons (wrong_num 2 256 2 (by decide) (by decide)), badOf_cons (wrong_num 3 3 4 (by decide) (by decide)), badOf_cons (wrong_txt 7 nm (.inl (by decide)) (by decide)), badOf_cons (wrong_num 9 cid 2 (by decide) (by decide)),
      badOf_cons (wrong_num 10 4 2 (by decide) (by decide)), hb]
  have hneed : needOf (lstC k nm cid rest) [2, 3, 7, 9] = 0 := by
    have h2 : (findAv 2 (lstC k nm cid rest)).2 = true := by rw [lstC, find_skipN _ _ _ _ _ (by decide), find_hitN]
    have h3 : (findAv 3 (lstC k nm cid rest)).2 = true := by rw [lstC, find_skipN _ _ _ _ _ (by decide), find_skipN _ _ _ _ _ (by decide), find_hitN]
    have h7 : (findAv 7 (lstC k nm cid rest)).2 = true := by rw [lstC_find7]
    have h9 : (findAv 9 (lstC k nm cid rest)).2 = true := by
      rw [lstC, find_skipN _ _ _ _ _ (by decide), find_skipN _ _ _ _ _ (by decide), find_skipN _ _ _ _ _ (by decide), find_skip _ _ _ _ (by decide), find_hitN]
    simp only [needOf, h2, h3, h7, h9, if_true]
  show (match needsOf (kindOf (lstC k nm cid rest)) with
    | none => 40
    | some ns => if badOf (numAv 2 256 2 :: numAv 3 3 4 :: txtAv 7 nm :: numAv 9 cid 2 :: numAv 10 4 2 :: rest) = 0 then needOf (lstC k nm cid rest) ns else badOf (numAv 2 256 2 :: numAv 3 3 4 :: txtAv 7 nm :: numAv 9 cid 2 :: numAv 10 4 2 :: rest)) = 0
  rw [hk, hn]
  dsimp only
  rw [if_pos hbad, hneed]
theorem lstC_clear (hk : 0 ≤ k ∧ k < 65536) (hn : nm.size ≤ 100) (hr : rest.length ≤ 3) (hc : ∀ a ∈ rest, a.vendor = 0 ∧ (0 ≤ a.kind ∧ a.kind ≤ 65535) ∧ a.hidden = false ∧ a.val.size ≤ 100) : Clear (lstC k nm cid rest) := by
  refine ⟨by simp [lstC], by simp only [lstC, List.length_cons]; omega, fun a ha => ?_⟩
  simp only [lstC, List.mem_cons] at ha
  rcases ha with rfl | rfl | rfl | rfl | rfl | rfl | ha
  · exact ⟨rfl, ⟨by simp [numAv], by simp [numAv]⟩, rfl, by simp [numAv, be_size]⟩
  · exact ⟨rfl, ⟨by simp [numAv], by simp [numAv]⟩, rfl, by simp [numAv, be_size]⟩
  · exact ⟨rfl, ⟨by simp [numAv], by simp [numAv]⟩, rfl, by simp [numAv, be_size]⟩
  · exact ⟨rfl, ⟨by simp [txtAv], by simp [txtAv]⟩, rfl, hn⟩
  · exact ⟨rfl, ⟨by simp [numAv], by simp [numAv]⟩, rfl, by simp [numAv, be_size]⟩
  · exact ⟨rfl, ⟨by simp [numAv], by simp [numAv]⟩, rfl, by simp [numAv, be_size]⟩
  · exact hc a ha
end

/-! ### an end's steps -/
def askL (T : Tn) : List Av := if T.secret.size = 0 then [] else [txtAv 11 (T.tape.str 16)]
def askS (T : Tn) : ByteArray := if T.secret.size = 0 then T.asked else T.tape.str 16
def askT (T : Tn) : Tp := if T.secret.size = 0 then T.tape else Tp.after 16 T.tape
theorem ask_eq (T : Tn) : T.ask = ({ T with asked := askS T, tape := askT T }, askL T) := by
  unfold Tn.ask askS askT askL
  split <;> rfl
theorem askL_clear (T : Tn) : (askL T).length ≤ 1 ∧ (∀ a ∈ askL T, a.vendor = 0 ∧ (0 ≤ a.kind ∧ a.kind ≤ 65535) ∧ a.hidden = false ∧ a.val.size ≤ 100) ∧ badOf (askL T) = 0 := by
  unfold askL
  split
  · exact ⟨by simp, by simp, rfl⟩
  · refine ⟨by simp, fun a ha => ?_, ?_⟩
    · simp only [List.mem_singleton] at ha
      subst ha
      exact ⟨rfl, ⟨by simp [txtAv], by simp [txtAv]⟩, rfl, by show (T.tape.str 16).size ≤ 100; rw [Tp.str_size]; omega⟩
    · rw [badOf_cons (wrong_txt 11 _ (.inl (by decide)) (by decide))]; rfl
theorem resp_clear (T : Tn) (by_ : Int) : (T.respond by_).length ≤ 1 ∧ (∀ a ∈ T.respond by_, a.vendor = 0 ∧ (0 ≤ a.kind ∧ a.kind ≤ 65535) ∧ a.hidden = false ∧ a.val.size ≤ 100) ∧ ∀ r, badOf r = 0 → badOf (T.respond by_ ++ r) = 0 := by
  unfold Tn.respond
  split
  · exact ⟨by simp, by simp, fun r h => h⟩
  · refine ⟨by simp, fun a ha => ?_, fun r h => ?_⟩
    · simp only [List.mem_singleton] at ha
      subst ha
      exact ⟨rfl, ⟨by simp [txtAv], by simp [txtAv]⟩, rfl, by show (chapS _ _ _).size ≤ 100; rw [chapS_size]; omega⟩
    · rw [List.singleton_append, badOf_cons (wrong_txt 13 _ (.inr (by rw [chapS_size]; decide)) (by decide)), h]
/-- Says these values and a challenge. -/
theorem sayAsk_eq (T : Tn) {x y r c : Int} {fl : List ByteArray} {o : Bool} (hw : T.way = chn x y [] fl r c o) (st : Int) {l : List Av} (hl : Clear (l ++ askL T)) :
    T.sayAsk st l = { T with state := st, since := 0, asked := askS T, tape := askT T, way := chn x y [bodyC 0 (l ++ askL T)] fl r c o } := by
  have ha := ask_eq ({ T with state := st, since := 0 } : Tn)
  have e1 : askL ({ T with state := st, since := 0 } : Tn) = askL T := rfl
  have e2 : askS ({ T with state := st, since := 0 } : Tn) = askS T := rfl
  have e3 : askT ({ T with state := st, since := 0 } : Tn) = askT T := rfl
  rw [e1, e2, e3] at ha
  rw [Tn.sayAsk, ha]
  dsimp only
  rw [send_clear hl]
  dsimp only
  rw [hw, chn_send (bodyC_size hl 0)]
theorem out_one (T : Tn) {x y r c : Int} {b : ByteArray} {o : Bool} (hw : T.way = chn x y [b] [] r c o) (hr : 1 ≤ r) (ht : T.told = false) :
    T.out = ({ T with told := decide (T.state = 4), way := chn ((x + 1) % 65536) y [] [b] r c false }, [sayM T.id ⟨x, y, b⟩]) := by
  rw [Tn.out, if_neg (by simp [ht]), hw, chn_out b o hr]
  rfl
theorem out_owed (T : Tn) {x y r c : Int} {fl : List ByteArray} (hw : T.way = chn x y [] fl r c true) (ht : T.told = false) :
    T.out = ({ T with told := decide (T.state = 4), way := chn x y [] fl r c false }, [sayM T.id ⟨x, y, ⟨#[]⟩⟩]) := by
  rw [Tn.out, if_neg (by simp [ht]), hw, chn_out_owed]
  rfl
theorem out_none (T : Tn) {x y r c : Int} {fl : List ByteArray} (hw : T.way = chn x y [] fl r c false) (ht : T.told = false) :
    T.out = ({ T with told := decide (T.state = 4), way := chn x y [] fl r c false }, []) := by
  rw [Tn.out, if_neg (by simp [ht]), hw, chn_out_none]
  rfl
theorem out_told (T : Tn) (ht : T.told = true) : T.out = (T, []) := by rw [Tn.out, if_pos ht]
end Go.Proofs.YtolfjfkkbhbbbaaGreat
namespace Go.Proofs.YtolfjfkkbhbbbaaGreat
open Go.RowKit
set_option linter.unusedSimpArgs false
set_option linter.unusedVariables false

theorem bef_self (x : Int) : bef x x = false := by simp [bef]
theorem bef_back (x : Int) (hx : 0 ≤ x ∧ x < 65536) : bef x ((x - 1) % 65536) = false := by
  simp only [bef, Bool.and_eq_false_imp, decide_eq_true_eq, decide_eq_false_iff_not]
  omega
theorem bef_one (x : Int) (hx : 0 ≤ x ∧ x < 65536) : bef ((x - 1) % 65536) x = true := by
  simp only [bef, Bool.and_eq_true, decide_eq_true_eq]
  omega
section
variable {x y r c : Int} {ws : List ByteArray} {o : Bool}
theorem chn_acked0 (hx : 0 ≤ x ∧ x < 65536) : (chn x y ws [] r c o).acked x = chn x y ws [] r c o := by
  unfold C.acked
  split
  · rfl
  · rfl
theorem chn_acked1 (hx : 0 ≤ x ∧ x < 65536) (f : ByteArray) (hr : r < 4) : (chn x y ws [f] r c o).acked x = chn x y ws [] (r + 1) c o := by
  have h1 : (chn x y ws [f] r c o).first = (x - 1) % 65536 := rfl
  have h2 : bef x (chn x y ws [f] r c o).first = false := by rw [h1]; exact bef_back x hx
  have h3 : bef (chn x y ws [f] r c o).sent x = false := bef_self x
  have h4 : bef (chn x y ws [f] r c o).first x = true := by rw [h1]; exact bef_one x hx
  rw [C.acked, h2, h3, if_neg (by simp), show (chn x y ws [f] r c o).flies.length = 1 from rfl, C.ackLoop, if_pos ⟨by show 0 < 1; omega, h4⟩, C.ackLoop]
  unfold C.pop C.grow chn
  dsimp only
  rw [if_pos hr]
  simp only [List.tail_cons]
  rw [Int.min_eq_left (by omega)]
theorem chn_take0 (hx : 0 ≤ x ∧ x < 65536) (hy : 0 ≤ y ∧ y < 65536) {b : ByteArray} (hb : b.size ≠ 0) : (chn x y ws [] r c o).take y x b = (chn x ((y + 1) % 65536) ws [] r c true, [b]) := by
  rw [C.take, if_neg (by rintro (h | h | h); cases h; exact h (by omega); exact h (by omega)), if_neg hb, chn_acked0 hx, if_neg (by show ¬ y ≠ y; simp)]
  rfl
theorem chn_take1 (hx : 0 ≤ x ∧ x < 65536) (hy : 0 ≤ y ∧ y < 65536) (f : ByteArray) (hr : r < 4) {b : ByteArray} (hb : b.size ≠ 0) : (chn x y ws [f] r c o).take y x b = (chn x ((y + 1) % 65536) ws [] (r + 1) c true, [b]) := by
  rw [C.take, if_neg (by rintro (h | h | h); cases h; exact h (by omega); exact h (by omega)), if_neg hb, chn_acked1 hx f hr, if_neg (by show ¬ y ≠ y; simp)]
  rfl
theorem chn_ack1 (hx : 0 ≤ x ∧ x < 65536) (ns : Int) (hy : 0 ≤ ns ∧ ns < 65536) (f : ByteArray) (hr : r < 4) : (chn x y ws [f] r c o).take ns x ⟨#[]⟩ = (chn x y ws [] (r + 1) c o, []) := by
  rw [C.take, if_neg (by rintro (h | h | h); cases h; exact h (by omega); exact h (by omega)), if_pos (show ByteArray.size ⟨#[]⟩ = 0 from rfl), chn_acked1 hx f hr]

theorem hear0 (T : Tn) (hw : T.way = chn x y ws [] r c o) (hx : 0 ≤ x ∧ x < 65536) (hy : 0 ≤ y ∧ y < 65536) {id s : Int} {l : List Av} (hl : Clear l) :
    T.hear ⟨id, s, y, x, l⟩ (bodyC s l) = ({ T with quiet := 0, way := chn x ((y + 1) % 65536) ws [] r c true } : Tn).handle ⟨id, s, y, x, l⟩ := by
  have hz := bodyC_size hl s
  rw [Tn.hear, hw]
  dsimp only
  rw [chn_take0 hx hy (by omega), if_neg (by simp)]
theorem hear1 (T : Tn) {f : ByteArray} (hw : T.way = chn x y ws [f] r c o) (hx : 0 ≤ x ∧ x < 65536) (hy : 0 ≤ y ∧ y < 65536) (hr : r < 4) {id s : Int} {l : List Av} (hl : Clear l) :
    T.hear ⟨id, s, y, x, l⟩ (bodyC s l) = ({ T with quiet := 0, way := chn x ((y + 1) % 65536) ws [] (r + 1) c true } : Tn).handle ⟨id, s, y, x, l⟩ := by
  have hz := bodyC_size hl s
  rw [Tn.hear, hw]
  dsimp only
  rw [chn_take1 hx hy f hr (by omega), if_neg (by simp)]
theorem hear_ack1 (T : Tn) {f : ByteArray} (hw : T.way = chn x y ws [f] r c o) (hx : 0 ≤ x ∧ x < 65536) (ns : Int) (hy : 0 ≤ ns ∧ ns < 65536) (hr : r < 4) {id : Int} :
    T.hear ⟨id, 0, ns, x, []⟩ ⟨#[]⟩ = ({ T with quiet := 0, way := chn x y ws [] (r + 1) c o }, []) := by
  rw [Tn.hear, hw]
  dsimp only
  rw [chn_ack1 hx ns hy f hr, if_pos rfl]
end
theorem takeM_mine (T : Tn) (m : Cm) (b : ByteArray) (h : m.t = T.cid) (hk : kindOf m.l ≠ 1 ∨ T.state ≠ 1) : T.takeM m b = T.hear m b := by
  rw [Tn.takeM, if_neg (fun h1 => h1.1 h), if_neg (fun h1 => hk.elim (fun h2 => h2 h1.1) (fun h2 => h2 h1.2))]
theorem takeM_zero (T : Tn) (m : Cm) (b : ByteArray) (h : m.t = 0) (hk : kindOf m.l = 1) (h0 : T.state = 0) : T.takeM m b = T.hear m b := by
  rw [Tn.takeM, if_neg (by rintro ⟨-, h1 | h1 | h1⟩; exact h1 h; exact h1 hk; exact h1.1 h0), if_neg (by rintro ⟨-, h1⟩; rw [h0] at h1; cases h1)]
theorem handle1 (T : Tn) (m : Cm) (hk : kindOf m.l = 1) (hc : checkOf m.l = 0) (h0 : T.state = 0) : T.handle m = (T.opened m.l, []) := by
  rw [Tn.handle, hk, if_neg (by decide), if_neg (fun h => h hc), if_pos ⟨rfl, h0⟩]
theorem handle2 (T : Tn) (m : Cm) (hk : kindOf m.l = 2) (hc : checkOf m.l = 0) (h0 : T.state = 1) : T.handle m = (T.replied m.l, []) := by
  rw [Tn.handle, hk, if_neg (by decide), if_neg (fun h => h hc), if_neg (by rintro ⟨h, -⟩; cases h), if_pos ⟨rfl, h0⟩]
theorem handle3 (T : Tn) (m : Cm) (hk : kindOf m.l = 3) (hc : checkOf m.l = 0) (h0 : T.state = 2) : T.handle m = (T.connected m.l, []) := by
  rw [Tn.handle, hk, if_neg (by decide), if_neg (fun h => h hc), if_neg (by rintro ⟨h, -⟩; cases h), if_neg (by rintro ⟨h, -⟩; cases h), if_pos ⟨rfl, h0⟩]
theorem handle4 (T : Tn) (m : Cm) (hk : kindOf m.l = 4) (hc : checkOf m.l = 0) : T.handle m = ({ T with state := 4 }, []) := by
  rw [Tn.handle, hk, if_neg (by decide), if_neg (fun h => h hc), if_neg (by rintro ⟨h, -⟩; cases h), if_neg (by rintro ⟨h, -⟩; cases h), if_neg (by rintro ⟨h, -⟩; cases h), if_pos rfl]

/-! ### the messages Scccn, Stopccn, Hello -/
theorem stop_parts (T : Tn) (k : Int) : Clear (T.endL k) ∧ kindOf (T.endL k) = 4 ∧ checkOf (T.endL k) = 0 := by
  refine ⟨⟨by simp [Tn.endL], by simp [Tn.endL], fun a ha => ?_⟩, kind_num 4 (by omega) _, ?_⟩
  · simp only [Tn.endL, List.mem_cons, List.not_mem_nil, or_false] at ha
    rcases ha with rfl | rfl | rfl <;> exact ⟨rfl, ⟨by simp [numAv], by simp [numAv]⟩, rfl, by simp [numAv, be_size]⟩
  · have hk : kindOf (T.endL k) = 4 := kind_num 4 (by omega) _
    have h9 : (findAv 9 (T.endL k)).2 = true := by rw [Tn.endL, find_skipN _ _ _ _ _ (by decide), find_hitN]
    have h1 : (findAv 1 (T.endL k)).2 = true := by rw [Tn.endL, find_skipN _ _ _ _ _ (by decide), find_skipN _ _ _ _ _ (by decide), find_hitN]
    have hb : badOf [numAv 9 T.cid 2, numAv 1 k 2] = 0 := by
      have w1 : wrongAv (numAv 1 k 2) = 0 := by
        unfold wrongAv numAv
        dsimp only
        rw [if_neg (by rintro (h | h); exact h rfl; revert h; decide), if_neg (by rintro (⟨h, -⟩ | h); revert h; decide; cases h)]
      rw [badOf_cons (wrong_num 9 _ 2 (by decide) (by decide)), badOf_cons w1]; rfl
    show (match needsOf (kindOf (T.endL k)) with
      | none => 40
      | some ns => if badOf [numAv 9 T.cid 2, numAv 1 k 2] = 0 then needOf (T.endL k) ns else badOf [numAv 9 T.cid 2, numAv 1 k 2]) = 0
    rw [hk, show needsOf 4 = some [9, 1] by decide]
    dsimp only
    rw [if_pos hb]
    simp only [needOf, h9, h1, if_true]
/-- The end ends. -/
theorem end_eq (T : Tn) {x y r c : Int} {fl : List ByteArray} {o : Bool} (hw : T.way = chn x y [] fl r c o) (k : Int) :
    T.end_ k = { T with state := 4, way := chn x y [bodyC 0 (T.endL k)] fl r c o } := by
  have hc := (stop_parts T k).1
  rw [Tn.end_, send_clear hc]
  dsimp only
  rw [hw, chn_send (bodyC_size hc 0)]
/-- The message that connects. -/
def conL (T : Tn) : List Av := numAv 0 3 2 :: T.respond 3
theorem con_parts (T : Tn) : Clear (conL T) ∧ kindOf (conL T) = 3 ∧ checkOf (conL T) = 0 := by
  have hr := resp_clear T 3
  refine ⟨⟨by simp [conL], by simp only [conL, List.length_cons]; omega, fun a ha => ?_⟩, kind_num 3 (by omega) _, ?_⟩
  · simp only [conL, List.mem_cons] at ha
    rcases ha with rfl | ha
    · exact ⟨rfl, ⟨by decide, by decide⟩, rfl, by simp [numAv, be_size]⟩
    · exact hr.2.1 a ha
  · have hk : kindOf (conL T) = 3 := kind_num 3 (by omega) _
    have hb := hr.2.2 [] rfl
    rw [List.append_nil] at hb
    show (match needsOf (kindOf (conL T)) with
      | none => 40
      | some ns => if badOf (T.respond 3) = 0 then needOf (conL T) ns else badOf (T.respond 3)) = 0
    rw [hk, show needsOf 3 = some [] by decide]
    dsimp only
    rw [if_pos hb]
    rfl
end Go.Proofs.YtolfjfkkbhbbbaaGreat
namespace Go.Proofs.YtolfjfkkbhbbbaaGreat
open Go.RowKit
set_option linter.unusedSimpArgs false
set_option linter.unusedVariables false

structure Start (T : Tn) : Prop where
  way : T.way = chn 0 0 [] [] 1 0 false
  told : T.told = false
  win : T.window = 4
  name : T.name.size ≤ 40
  cid : 1 ≤ T.cid ∧ T.cid < 65536
  state : T.state = 0
/-- Where an end stands, and that it is the end that T0 was. -/
structure Sn (T : Tn) (st : Int) (w : C) (id : Int) (told : Bool) (T0 : Tn) : Prop where
  st : T.state = st
  way : T.way = w
  id : T.id = id
  told : T.told = told
  cid : T.cid = T0.cid
  secret : T.secret = T0.secret
  name : T.name = T0.name
  win : T.window = T0.window
  hello : T.hello = T0.hello
  quiet : T.quiet = 0

def L1 (T : Tn) : List Av := lstC 1 T.name T.cid (txtAv 5 (T.tape.str 8) :: askL T.open1)
theorem L1_parts {T : Tn} (h : Start T) : Clear (L1 T) ∧ kindOf (L1 T) = 1 ∧ checkOf (L1 T) = 0 := by
  have ha := askL_clear T.open1
  have ht : (txtAv 5 (T.tape.str 8)).val.size = 8 := Tp.str_size _ _
  refine ⟨lstC_clear 1 _ _ _ (by omega) (by have := h.name; omega) (by simp only [List.length_cons]; omega) (fun a h => ?_), lstC_kind 1 _ _ _ (by omega), lstC_check 1 _ _ _ (.inl rfl) ?_⟩
  · rcases List.mem_cons.1 h with rfl | h
    · exact ⟨rfl, ⟨by simp [txtAv], by simp [txtAv]⟩, rfl, by omega⟩
    · exact ha.2.1 a h
  · rw [badOf_cons (wrong_txt 5 _ (.inr (by rw [Tp.str_size]; decide)) (by decide)), ha.2.2]
theorem L1_chal (T : Tn) : findAv 11 (L1 T) = if T.secret.size = 0 then (⟨#[]⟩, false) else (T.open1.tape.str 16, true) := by
  rw [L1, lstC_find _ _ _ _ 11 (by decide), find_skip _ _ _ _ (by decide), askL]
  show findAv 11 (if T.secret.size = 0 then _ else _) = _
  split
  · rfl
  · rw [find_hit]
theorem about_eq {T : Tn} (h : T.window = 4) (k : Int) (r : List Av) : T.about k ++ r = lstC k T.name T.cid r := by
  simp [Tn.about, Tn.saysL, lstC, h]
/-- An end that opened. -/
def openC (T : Tn) : Tn := { T.open1 with state := 1, since := 0, asked := askS T.open1, tape := askT T.open1, way := chn 0 0 [bodyC 0 (L1 T)] [] 1 0 false }
theorem open_eq {T : Tn} (h : Start T) : T.open_ = (openC T, 0) := by
  have hl : T.open1.about 1 ++ [txtAv 5 (T.tape.str 8)] ++ askL T.open1 = L1 T := by
    rw [List.append_assoc, about_eq (T := T.open1) h.win]
    rfl
  have hc : Clear (T.open1.about 1 ++ [txtAv 5 (T.tape.str 8)] ++ askL T.open1) := by rw [hl]; exact (L1_parts h).1
  rw [Tn.open_, if_neg (by simp [h.state]), sayAsk_eq T.open1 h.way 1 hc, hl]
  rfl
/-- What the peer said of itself, taken. -/
theorem heard_eq (T : Tn) {x y r c : Int} {fl : List ByteArray} {o : Bool} (hw : T.way = chn x y [] fl r c o) (hr : r ≤ 4) (k : Int) (nm : ByteArray) (cid : Int) (rest : List Av) (hc : 1 ≤ cid ∧ cid < 65536) :
    T.who (lstC k nm cid rest) = ({ T with id := cid, peer := nm, to_ := (findAv 11 rest).1, challenged := (findAv 11 rest).2 }, true) := by
  have h9 := lstC_num9 k nm cid rest (by omega)
  have h10 := lstC_num10 k nm cid rest
  have h7 := lstC_find7 k nm cid rest
  have h11 := lstC_find k nm cid rest 11 (by decide)
  have hset : T.way.setW 4 = T.way := by
    rw [hw]
    unfold C.setW chn
    dsimp only
    rw [Int.min_eq_left hr]
  have hh : T.heard (lstC k nm cid rest) = { T with id := cid, peer := nm, to_ := (findAv 11 rest).1, challenged := (findAv 11 rest).2 } := by
    rw [Tn.heard, h9, h10, h7, h11, if_pos (by simp), hset]
  rw [Tn.who, hh, if_neg (by dsimp only; omega)]

/-! ### the first round -/
def chal (O : Tn) : ByteArray × Bool := if O.secret.size = 0 then (⟨#[]⟩, false) else (O.open1.tape.str 16, true)
/-- The other end, as it heard the opening. -/
def H1 (O R : Tn) : Tn := { R with quiet := 0, way := chn 0 1 [] [] 1 0 true, id := O.cid, peer := O.name, to_ := (chal O).1, challenged := (chal O).2 }
theorem chal_rest (O : Tn) : findAv 11 (txtAv 5 (O.tape.str 8) :: askL O.open1) = chal O := by
  rw [find_skip _ _ _ _ (by decide), askL, chal]
  show findAv 11 (if O.secret.size = 0 then _ else _) = _
  split
  · rfl
  · rw [find_hit]
theorem take1 {O R : Tn} (hO : Start O) (hR : Start R) : R.take (sayM 0 ⟨0, 0, bodyC 0 (L1 O)⟩) = ((H1 O R).opened1, []) := by
  obtain ⟨c1, c2, c3⟩ := L1_parts hO
  rw [take_clear ⟨by omega, by omega, by omega, by omega⟩ c1 R (by rw [hR.state]; decide), takeM_zero R _ _ rfl c2 hR.state, hear0 R hR.way (by omega) (by omega) c1,
    handle1 ({ R with quiet := 0, way := chn 0 ((0 + 1) % 65536) [] [] 1 0 true } : Tn) _ c2 c3 hR.state]
  dsimp only
  rw [L1, Tn.opened, heard_eq ({ R with quiet := 0, way := chn 0 ((0 + 1) % 65536) [] [] 1 0 true } : Tn) rfl (by omega) 1 O.name O.cid _ hO.cid, if_neg (by simp), chal_rest]
  rfl
/-- Have both a secret, or neither? -/
def Both (O R : Tn) : Prop := (O.secret.size = 0 ↔ R.secret.size = 0)
def L2 (O R : Tn) : List Av := lstC 2 R.name R.cid ((H1 O R).respond 2 ++ askL (H1 O R))
theorem L2_parts {O R : Tn} (hR : Start R) : Clear (L2 O R) ∧ kindOf (L2 O R) = 2 ∧ checkOf (L2 O R) = 0 := by
  have ha := askL_clear (H1 O R)
  have hr := resp_clear (H1 O R) 2
  refine ⟨lstC_clear 2 _ _ _ (by omega) (by have := hR.name; omega) (by rw [List.length_append]; omega) (fun a h => ?_), lstC_kind 2 _ _ _ (by omega), lstC_check 2 _ _ _ (.inr rfl) (hr.2.2 _ ha.2.2)⟩
  rcases List.mem_append.1 h with h | h
  · exact hr.2.1 a h
  · exact ha.2.1 a h
def R1 (O R : Tn) : Tn := { H1 O R with state := 2, since := 0, asked := askS (H1 O R), tape := askT (H1 O R), way := chn 0 1 [bodyC 0 (L2 O R)] [] 1 0 true }
theorem opened1_good {O R : Tn} (hR : Start R) (hb : Both O R) : (H1 O R).opened1 = R1 O R := by
  have hc : (H1 O R).about 2 ++ (H1 O R).respond 2 ++ askL (H1 O R) = L2 O R := by
    rw [List.append_assoc, about_eq (T := H1 O R) hR.win]
    rfl
  have hq : Clear ((H1 O R).about 2 ++ (H1 O R).respond 2 ++ askL (H1 O R)) := by rw [hc]; exact (L2_parts hR).1
  have hn : (H1 O R).challenged = !decide ((H1 O R).secret.size = 0) := by
    show (chal O).2 = !decide (R.secret.size = 0)
    unfold chal
    split
    · rename_i h
      simp [hb.1 h]
    · rename_i h
      have : R.secret.size ≠ 0 := fun h2 => h (hb.2 h2)
      simp [this]
  rw [Tn.opened1, if_neg (fun h => h hn), sayAsk_eq (H1 O R) (x := 0) (y := 1) (fl := []) (r := 1) (c := 0) (o := true) rfl 2 hq, hc]
  rfl
def R1x (O R : Tn) : Tn := { H1 O R with state := 4, way := chn 0 1 [bodyC 0 ((H1 O R).endL 4)] [] 1 0 true }
theorem opened1_bad {O R : Tn} (hb : ¬ Both O R) : (H1 O R).opened1 = R1x O R := by
  have hn : (H1 O R).challenged ≠ !decide ((H1 O R).secret.size = 0) := by
    show (chal O).2 ≠ !decide (R.secret.size = 0)
    unfold chal
    split
    · rename_i h
      have : R.secret.size ≠ 0 := fun h2 => hb ⟨fun _ => h2, fun _ => h⟩
      simp [this]
    · rename_i h
      have : R.secret.size = 0 := Classical.byContradiction fun h2 => hb ⟨fun h3 => absurd h3 h, fun h3 => absurd h3 h2⟩
      simp [this]
  rw [Tn.opened1, if_pos hn, end_eq (H1 O R) (x := 0) (y := 1) (fl := []) (r := 1) (c := 0) (o := true) rfl 4]
  rfl
/-- The opening end, as its opening is gone out. -/
def O2 (O : Tn) : Tn := { openC O with told := false, way := chn 1 0 [] [bodyC 0 (L1 O)] 1 0 false }
theorem out1 {O : Tn} (hO : Start O) (hid : O.id = 0) : (openC O).out = (O2 O, [sayM 0 ⟨0, 0, bodyC 0 (L1 O)⟩]) := by
  refine (out_one (openC O) (x := 0) (y := 0) (r := 1) (c := 0) (o := false) rfl (by omega) hO.told).trans ?_
  rw [show sayM (openC O).id = sayM O.id from rfl, hid]
  rfl
/-- Both are dead. -/
def Dead2 (p : Tn × Tn) : Prop := p.1.state = 4 ∧ p.2.state = 4
theorem dead_take {T : Tn} (h : T.state = 4) (b : ByteArray) : T.take b = (T, []) := by rw [Tn.take, if_pos h]
theorem dead_feed {T : Tn} (h : T.state = 4) : ∀ l : List ByteArray, feed T l = T := by
  intro l
  induction l with
  | nil => rfl
  | cons b l ih => rw [feed, List.foldl_cons, dead_take h]; exact ih
theorem out_state (T : Tn) : T.out.1.state = T.state := by
  unfold Tn.out
  split <;> rfl
theorem dead_meet {p : Tn × Tn} (h : Dead2 p) : Dead2 (meet1 p) := by
  have h1 : p.1.out.1.state = 4 := (out_state _).trans h.1
  unfold meet1
  rw [dead_feed h.2, dead_feed h1]
  exact ⟨h1, (out_state _).trans h.2⟩
theorem feed_one (T : Tn) (b : ByteArray) : feed T [b] = (T.take b).1 := rfl
theorem round1_bad {O R : Tn} (hO : Start O) (hR : Start R) (hid : O.id = 0) (hb : ¬ Both O R) : Dead2 (meet1 (openC O, R)) := by
  have e1 : (meet1 (openC O, R)) = (feed (O2 O) (R1x O R).out.2, (R1x O R).out.1) := by
    unfold meet1
    rw [out1 hO hid]
    dsimp only
    rw [feed_one, take1 hO hR, opened1_bad hb]
  obtain ⟨s1, s2, s3⟩ := stop_parts (H1 O R) 4
  have e2 : (R1x O R).out.2 = [sayM O.cid ⟨0, 1, bodyC 0 ((H1 O R).endL 4)⟩] := by
    rw [out_one (R1x O R) (x := 0) (y := 1) (r := 1) (c := 0) (o := true) rfl (by omega) hR.told]
    rfl
  rw [e1, e2, feed_one, take_clear ⟨by have := hO.cid; omega, by omega, by omega, by omega⟩ s1 (O2 O) (by show (1 : Int) ≠ 4; decide), takeM_mine (O2 O) _ _ rfl (.inl (by rw [s2]; decide)),
    hear1 (O2 O) (x := 1) (y := 0) (r := 1) (c := 0) (o := false) rfl (by omega) (by omega) (by omega) s1, handle4 _ _ s2 s3]
  exact ⟨rfl, out_state _⟩

/-! ### the reply -/
def chal2 (O R : Tn) : ByteArray × Bool := findAv 11 ((H1 O R).respond 2 ++ askL (H1 O R))
def H3 (O R : Tn) : Tn := { O2 O with quiet := 0, way := chn 1 1 [] [] 2 0 true, id := R.cid, peer := R.name, to_ := (chal2 O R).1, challenged := (chal2 O R).2 }
def R2 (O R : Tn) : Tn := { R1 O R with told := false, way := chn 1 1 [] [bodyC 0 (L2 O R)] 1 0 false }
theorem round1_good {O R : Tn} (hO : Start O) (hR : Start R) (hid : O.id = 0) (hb : Both O R) : meet1 (openC O, R) = ((H3 O R).replied1 (L2 O R), R2 O R) := by
  have e1 : (meet1 (openC O, R)) = (feed (O2 O) (R1 O R).out.2, (R1 O R).out.1) := by
    unfold meet1
    rw [out1 hO hid]
    dsimp only
    rw [feed_one, take1 hO hR, opened1_good hR hb]
  obtain ⟨s1, s2, s3⟩ := L2_parts (O := O) hR
  have e2 : (R1 O R).out = (R2 O R, [sayM O.cid ⟨0, 1, bodyC 0 (L2 O R)⟩]) := by
    rw [out_one (R1 O R) (x := 0) (y := 1) (r := 1) (c := 0) (o := true) rfl (by omega) hR.told]
    rfl
  rw [e1, e2]
  dsimp only
  rw [feed_one, take_clear ⟨by have := hO.cid; omega, by omega, by omega, by omega⟩ s1 (O2 O) (by show (1 : Int) ≠ 4; decide), takeM_mine (O2 O) _ _ rfl (.inl (by rw [s2]; decide)),
    hear1 (O2 O) (x := 1) (y := 0) (r := 1) (c := 0) (o := false) rfl (by omega) (by omega) (by omega) s1, handle2 _ _ s2 s3 rfl]
  dsimp only
  have hw := heard_eq ({ O2 O with quiet := 0, way := chn 1 ((0 + 1) % 65536) [] [] (1 + 1) 0 true } : Tn) (x := 1) (y := 1) (r := 2) (c := 0) (fl := []) (o := true) rfl (by omega) 2 R.name R.cid ((H1 O R).respond 2 ++ askL (H1 O R)) hR.cid
  rw [Tn.replied, show L2 O R = lstC 2 R.name R.cid ((H1 O R).respond 2 ++ askL (H1 O R)) from rfl, hw, if_neg (by simp)]
  rfl
/-- The responder's proof is the opener's. -/
def Proof2 (O R : Tn) : Prop := O.secret.size ≠ 0 → chapS 2 R.secret (O.open1.tape.str 16) = chapS 2 O.secret (O.open1.tape.str 16)
theorem resp1 (O R : Tn) (hb : Both O R) : (H1 O R).respond 2 = if O.secret.size = 0 then [] else [txtAv 13 (chapS 2 R.secret (O.open1.tape.str 16))] := by
  unfold Tn.respond
  by_cases h : O.secret.size = 0
  · rw [if_pos h, if_pos (.inl (hb.1 h))]
  · rw [if_neg h, if_neg]
    · show [txtAv 13 (chapS 2 R.secret (chal O).1)] = _
      rw [chal, if_neg h]
    · rintro (h1 | h1)
      · exact h (hb.2 h1)
      · have : (chal O).2 = false := h1
        rw [chal, if_neg h] at this
        cases this
theorem askL1 (O R : Tn) (hb : Both O R) : askL (H1 O R) = if O.secret.size = 0 then [] else [txtAv 11 (R.tape.str 16)] := by
  unfold askL
  by_cases h : O.secret.size = 0
  · rw [if_pos h, if_pos (show (H1 O R).secret.size = 0 from hb.1 h)]
  · rw [if_neg h, if_neg (show ¬ (H1 O R).secret.size = 0 from fun h1 => h (hb.2 h1))]
    rfl
theorem chal2_eq (O R : Tn) (hb : Both O R) : chal2 O R = if O.secret.size = 0 then (⟨#[]⟩, false) else (R.tape.str 16, true) := by
  rw [chal2, resp1 O R hb, askL1 O R hb]
  split
  · rfl
  · rw [List.singleton_append, find_skip _ _ _ _ (by decide), find_hit]
theorem find13 (O R : Tn) (hb : Both O R) : findAv 13 (L2 O R) = if O.secret.size = 0 then (⟨#[]⟩, false) else (chapS 2 R.secret (O.open1.tape.str 16), true) := by
  rw [L2, lstC_find _ _ _ _ 13 (by decide), resp1 O R hb, askL1 O R hb]
  split
  · rfl
  · rw [List.singleton_append, find_hit]
def O3 (O R : Tn) : Tn := { H3 O R with state := 3, way := chn 1 1 [bodyC 0 (conL ({ H3 O R with state := 3 } : Tn))] [] 2 0 true }
theorem replied_good {O R : Tn} (hb : Both O R) (hp : Proof2 O R) : (H3 O R).replied1 (L2 O R) = O3 O R := by
  have h13 := find13 O R hb
  have hc2 := chal2_eq O R hb
  have hcl := (con_parts ({ H3 O R with state := 3 } : Tn)).1
  have hcond : ¬ (((H3 O R).secret.size = 0 ∧ ((findAv 13 (L2 O R)).2 = true ∨ (H3 O R).challenged = true)) ∨ ((H3 O R).secret.size ≠ 0 ∧ ((H3 O R).challenged = false ∨ (H3 O R).proves (L2 O R) 2 = false))) := by
    rw [show (H3 O R).secret = O.secret from rfl, show (H3 O R).challenged = (chal2 O R).2 from rfl, hc2, h13]
    by_cases h : O.secret.size = 0
    · rw [if_pos h, if_pos h]
      simp [h]
    · rw [if_neg h, if_neg h]
      have hpr : (H3 O R).proves (L2 O R) 2 = true := by
        rw [Tn.proves, h13, if_neg h]
        show (true && decide (chapS 2 R.secret (O.open1.tape.str 16) = chapS 2 O.secret (askS O.open1))) = true
        rw [show askS O.open1 = O.open1.tape.str 16 from if_neg h, hp h]
        simp
      simp [h, hpr]
  rw [Tn.replied1, if_neg hcond, show (numAv 0 3 2 :: ({ H3 O R with state := 3 } : Tn).respond 3) = conL ({ H3 O R with state := 3 } : Tn) from rfl, send_clear hcl]
  show ({ H3 O R with state := 3, way := ((chn 1 1 [] [] 2 0 true).send _).1 } : Tn) = _
  rw [chn_send (bodyC_size hcl 0)]
  rfl
def O3x (O R : Tn) : Tn := { H3 O R with state := 4, way := chn 1 1 [bodyC 0 ((H3 O R).endL 4)] [] 2 0 true }
theorem replied_bad {O R : Tn} (hb : Both O R) (hp : ¬ Proof2 O R) : (H3 O R).replied1 (L2 O R) = O3x O R := by
  have h13 := find13 O R hb
  have hs : O.secret.size ≠ 0 := fun h => hp fun h1 => absurd h h1
  have hne : ¬ chapS 2 R.secret (O.open1.tape.str 16) = chapS 2 O.secret (O.open1.tape.str 16) := fun h => hp fun _ => h
  have hpr : (H3 O R).proves (L2 O R) 2 = false := by
    rw [Tn.proves, h13, if_neg hs]
    show (true && decide (chapS 2 R.secret (O.open1.tape.str 16) = chapS 2 O.secret (askS O.open1))) = false
    rw [show askS O.open1 = O.open1.tape.str 16 from if_neg hs]
    simp [hne]
  rw [Tn.replied1, if_pos (.inr ⟨hs, .inr hpr⟩), end_eq (H3 O R) (x := 1) (y := 1) (fl := []) (r := 2) (c := 0) (o := true) rfl 4]
  rfl

/-! ### the second round -/
theorem round2_bad {O R : Tn} (hO : Start O) (hR : Start R) : Dead2 (meet1 (O3x O R, R2 O R)) := by
  obtain ⟨s1, s2, s3⟩ := stop_parts (H3 O R) 4
  have e2 : (O3x O R).out.2 = [sayM R.cid ⟨1, 1, bodyC 0 ((H3 O R).endL 4)⟩] := by
    rw [out_one (O3x O R) (x := 1) (y := 1) (r := 2) (c := 0) (o := true) rfl (by omega) rfl]
    rfl
  have h1 : (O3x O R).out.1.state = 4 := out_state _
  unfold meet1
  dsimp only
  rw [dead_feed h1, e2, feed_one, take_clear ⟨by have := hR.cid; omega, by omega, by omega, by omega⟩ s1 (R2 O R) (by show (2 : Int) ≠ 4; decide), takeM_mine (R2 O R) _ _ rfl (.inl (by rw [s2]; decide)),
    hear1 (R2 O R) (x := 1) (y := 1) (r := 1) (c := 0) (o := false) rfl (by omega) (by omega) (by omega) s1, handle4 _ _ s2 s3]
  exact ⟨h1, out_state _⟩
def O4 (O R : Tn) : Tn := { O3 O R with told := false, way := chn 2 1 [] [bodyC 0 (conL ({ H3 O R with state := 3 } : Tn))] 2 0 false }
/-- The opener's proof is the responder's. -/
def Proof3 (O R : Tn) : Prop := O.secret.size ≠ 0 → chapS 3 O.secret (R.tape.str 16) = chapS 3 R.secret (R.tape.str 16)
/-- The responder, as the connecting message came. -/
def R3 (O R : Tn) : Tn := { R2 O R with quiet := 0, way := chn 1 2 [] [] 2 0 true }
theorem con_find13 (O R : Tn) (hb : Both O R) : findAv 13 (conL ({ H3 O R with state := 3 } : Tn)) = if O.secret.size = 0 then (⟨#[]⟩, false) else (chapS 3 O.secret (R.tape.str 16), true) := by
  have hc2 := chal2_eq O R hb
  rw [conL, find_skipN _ _ _ _ _ (by decide), Tn.respond]
  show findAv 13 (if O.secret.size = 0 ∨ (chal2 O R).2 = false then [] else [txtAv 13 (chapS 3 O.secret (chal2 O R).1)]) = _
  rw [hc2]
  by_cases h : O.secret.size = 0
  · rw [if_pos h, if_pos (.inl h), if_pos h]; rfl
  · rw [if_neg h, if_neg (by rintro (h1 | h1); exact h h1; cases h1), if_neg h, find_hit]
theorem round2_take {O R : Tn} (hO : Start O) (hR : Start R) : meet1 (O3 O R, R2 O R) = (feed (O4 O R) ((R3 O R).connected (conL ({ H3 O R with state := 3 } : Tn))).out.2, ((R3 O R).connected (conL ({ H3 O R with state := 3 } : Tn))).out.1) := by
  obtain ⟨s1, s2, s3⟩ := con_parts ({ H3 O R with state := 3 } : Tn)
  have e2 : (O3 O R).out = (O4 O R, [sayM R.cid ⟨1, 1, bodyC 0 (conL ({ H3 O R with state := 3 } : Tn))⟩]) := by
    rw [out_one (O3 O R) (x := 1) (y := 1) (r := 2) (c := 0) (o := true) rfl (by omega) rfl]
    rfl
  unfold meet1
  dsimp only
  rw [e2]
  dsimp only
  rw [feed_one, take_clear ⟨by have := hR.cid; omega, by omega, by omega, by omega⟩ s1 (R2 O R) (by show (2 : Int) ≠ 4; decide), takeM_mine (R2 O R) _ _ rfl (.inl (by rw [s2]; decide)),
    hear1 (R2 O R) (x := 1) (y := 1) (r := 1) (c := 0) (o := false) rfl (by omega) (by omega) (by omega) s1, handle3 _ _ s2 s3 rfl]
  rfl
theorem askedR (O R : Tn) (h : R.secret.size ≠ 0) : (R3 O R).asked = R.tape.str 16 := by
  show askS (H1 O R) = _
  rw [askS, if_neg (show ¬ (H1 O R).secret.size = 0 from h)]
  rfl
theorem con_bad {O R : Tn} (hb : Both O R) (hp : ¬ Proof3 O R) : ∃ b, (R3 O R).connected (conL ({ H3 O R with state := 3 } : Tn)) = { R3 O R with state := 4, way := chn 1 2 [b] [] 2 0 true } ∧ b = bodyC 0 ((R3 O R).endL 4) := by
  have hs : O.secret.size ≠ 0 := fun h => hp fun h1 => absurd h h1
  have hs2 : R.secret.size ≠ 0 := fun h => hs (hb.2 h)
  have hne : ¬ chapS 3 O.secret (R.tape.str 16) = chapS 3 R.secret (R.tape.str 16) := fun h => hp fun _ => h
  have hpr : (R3 O R).proves (conL ({ H3 O R with state := 3 } : Tn)) 3 = false := by
    rw [Tn.proves, con_find13 O R hb, if_neg hs, askedR O R hs2]
    show (true && decide (chapS 3 O.secret (R.tape.str 16) = chapS 3 R.secret (R.tape.str 16))) = false
    simp [hne]
  refine ⟨_, ?_, rfl⟩
  rw [Tn.connected, if_pos ⟨hs2, hpr⟩, end_eq (R3 O R) (x := 1) (y := 2) (fl := []) (r := 2) (c := 0) (o := true) rfl 4]
theorem con_good {O R : Tn} (hb : Both O R) (hp : Proof3 O R) : (R3 O R).connected (conL ({ H3 O R with state := 3 } : Tn)) = { R3 O R with state := 3 } := by
  rw [Tn.connected, if_neg]
  rintro ⟨h1, h2⟩
  have hs2 : R.secret.size ≠ 0 := h1
  have hs : O.secret.size ≠ 0 := fun h => hs2 (hb.1 h)
  rw [Tn.proves, con_find13 O R hb, if_neg hs, askedR O R hs2] at h2
  have h3 : (true && decide (chapS 3 O.secret (R.tape.str 16) = chapS 3 R.secret (R.tape.str 16))) = false := h2
  rw [hp hs] at h3
  simp at h3
theorem round2_worse {O R : Tn} (hO : Start O) (hR : Start R) (hb : Both O R) (hp : ¬ Proof3 O R) : Dead2 (meet1 (O3 O R, R2 O R)) := by
  obtain ⟨b, e1, rfl⟩ := con_bad hb hp
  obtain ⟨s1, s2, s3⟩ := stop_parts (R3 O R) 4
  rw [round2_take hO hR, e1]
  have e2 : ({ R3 O R with state := 4, way := chn 1 2 [bodyC 0 ((R3 O R).endL 4)] [] 2 0 true } : Tn).out.2 = [sayM O.cid ⟨1, 2, bodyC 0 ((R3 O R).endL 4)⟩] := by
    rw [out_one _ (x := 1) (y := 2) (r := 2) (c := 0) (o := true) rfl (by omega) rfl]
    rfl
  rw [e2, feed_one, take_clear ⟨by have := hO.cid; omega, by omega, by omega, by omega⟩ s1 (O4 O R) (by show (3 : Int) ≠ 4; decide), takeM_mine (O4 O R) _ _ rfl (.inl (by rw [s2]; decide)),
    hear1 (O4 O R) (x := 2) (y := 1) (r := 2) (c := 0) (o := false) rfl (by omega) (by omega) (by omega) s1, handle4 _ _ s2 s3]
  exact ⟨rfl, out_state _⟩
/-- The two ends as they have met. -/
def O5 (O R : Tn) : Tn := { O4 O R with quiet := 0, way := chn 2 1 [] [] 3 0 false }
def R5 (O R : Tn) : Tn := { R3 O R with state := 3, told := false, way := chn 1 2 [] [] 2 0 false }
theorem round2_good {O R : Tn} (hO : Start O) (hR : Start R) (hb : Both O R) (hp : Proof3 O R) : meet1 (O3 O R, R2 O R) = (O5 O R, R5 O R) := by
  rw [round2_take hO hR, con_good hb hp]
  have e2 : ({ R3 O R with state := 3 } : Tn).out = (R5 O R, [sayM O.cid ⟨1, 2, ⟨#[]⟩⟩]) := by
    rw [out_owed _ (x := 1) (y := 2) (r := 2) (c := 0) (fl := []) rfl rfl]
    rfl
  rw [e2]
  dsimp only
  rw [feed_one, take_ack ⟨by have := hO.cid; omega, by omega, by omega, by omega⟩ (O4 O R) (by show (3 : Int) ≠ 4; decide), takeM_mine (O4 O R) _ _ rfl (.inl (by show kindOf [] ≠ 1; decide)),
    hear_ack1 (O4 O R) (x := 2) (y := 1) (r := 2) (c := 0) (o := false) rfl (by omega) 1 (by omega) (by omega)]
  rfl
/-- Do two ends know one secret, or tell they as if they did? -/
def Know (O R : Tn) : Prop := Both O R ∧ Proof2 O R ∧ Proof3 O R
theorem still_round (O R : Tn) : meet1 (O5 O R, R5 O R) = (O5 O R, R5 O R) := by
  have e1 : (O5 O R).out = (O5 O R, []) := by
    rw [out_none (O5 O R) (x := 2) (y := 1) (r := 3) (c := 0) (fl := []) rfl rfl]
    rfl
  have e2 : (R5 O R).out = (R5 O R, []) := by
    rw [out_none (R5 O R) (x := 1) (y := 2) (r := 2) (c := 0) (fl := []) rfl rfl]
    rfl
  unfold meet1
  dsimp only
  rw [e1]
  dsimp only
  rw [show feed (R5 O R) [] = R5 O R from rfl, e2]
  rfl
theorem meet_know {O R : Tn} (hO : Start O) (hR : Start R) (hid : O.id = 0) (hk : Know O R) : ∀ n, meetN (n + 2) (openC O, R) = (O5 O R, R5 O R)
  | 0 => by
    show meet1 (meet1 (openC O, R)) = _
    rw [round1_good hO hR hid hk.1, replied_good hk.1 hk.2.1, round2_good hO hR hk.1 hk.2.2]
  | n + 1 => by
    show meet1 (meetN (n + 2) (openC O, R)) = _
    rw [meet_know hO hR hid hk n, still_round]
theorem meet_not {O R : Tn} (hO : Start O) (hR : Start R) (hid : O.id = 0) (hk : ¬ Know O R) : ∀ n, Dead2 (meetN (n + 2) (openC O, R))
  | 0 => by
    show Dead2 (meet1 (meet1 (openC O, R)))
    by_cases hb : Both O R
    · rw [round1_good hO hR hid hb]
      by_cases hp : Proof2 O R
      · rw [replied_good hb hp]
        exact round2_worse hO hR hb (fun h3 => hk ⟨hb, hp, h3⟩)
      · rw [replied_bad hb hp]
        exact round2_bad hO hR
    · exact dead_meet (round1_bad hO hR hid hb)
  | n + 1 => dead_meet (meet_not hO hR hid hk n)
theorem know_same {O R : Tn} (h : O.secret = R.secret) : Know O R := by
  refine ⟨by unfold Both; rw [h], fun _ => by rw [h], fun _ => by rw [h]⟩
end Go.Proofs.YtolfjfkkbhbbbaaGreat
