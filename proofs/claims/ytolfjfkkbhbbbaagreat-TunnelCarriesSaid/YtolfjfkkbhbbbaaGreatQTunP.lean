/- A tunnel's end as plain data. The walks of a tunnel's small methods: none, State, Ids, Peer; of two, text, number. The walk of tunnel's number. -/
import Derived.Test.YtolfjfkkbhbbbaaGreatRows
import Derived.Test.YtolfjfkkbhbbbaaGreatQLib
import Derived.Test.YtolfjfkkbhbbbaaGreatQCtlQ
import Derived.Test.YtolfjfkkbhbbbaaGreatQTapA
namespace Go.Proofs.YtolfjfkkbhbbbaaGreat
open Go.RowKit
set_option linter.unusedSimpArgs false
set_option linter.unusedVariables false

structure Tn where
  name : ByteArray
  secret : ByteArray
  cid : Int
  window : Int
  queue : Int
  retry : Int
  wait : Int
  hello : Int
  tape : Tp
  way : C
  state : Int
  id : Int
  peer : ByteArray
  tie : Int
  asked : ByteArray
  to_ : ByteArray
  challenged : Bool
  quiet : Int
  since : Int
  told : Bool
def Tn.cells (t : Tn) (vd vw : Value) : Array Value :=
  #[.string t.name, .string t.secret, .int .i64 t.cid, .int .i64 t.window, .int .i64 t.queue, .int .i64 t.retry, .int .i64 t.wait, .int .i64 t.hello, vd, vw,
    .int .i64 t.state, .int .i64 t.id, .string t.peer, .int .u64 t.tie, .string t.asked, .string t.to_, .bool t.challenged, .int .i64 t.quiet, .int .i64 t.since, .bool t.told]
/-- The end t lies at block b and owns these blocks: its own, its tape's, its channel's. -/
structure TunAt (w : World) (b : Nat) (t : Tn) (own : List Nat) : Prop where
  ex : ∃ bd od bw ow, Blk w b 70 (t.cells (.pointer (some ⟨bd, 0, none⟩)) (.pointer (some ⟨bw, 0, none⟩))) ∧ TpAt w bd t.tape od ∧ CtlAt w bw t.way ow ∧
    b ∉ od ∧ b ∉ ow ∧ (∀ k, k ∈ od → k ∉ ow) ∧ own = b :: (od ++ ow)
section
variable {w w' : World} {b : Nat} {t : Tn} {own : List Nat}
theorem TunAt.upd {F : List Nat} (h : TunAt w b t own) (hu : Upd F w w') (hF : ∀ k, k ∈ own → k ∉ F) : TunAt w' b t own := by
  obtain ⟨bd, od, bw, ow, h1, h2, h3, h4, h5, h6, rfl⟩ := h
  exact ⟨bd, od, bw, ow, h1.upd hu (hF _ (by simp)), h2.upd hu (fun k hk => hF k (by simp [hk])), h3.upd hu (fun k hk => hF k (by simp [hk])), h4, h5, h6, rfl⟩
theorem TunAt.keep (h : TunAt w b t own) (hu : Upd [] w w') : TunAt w' b t own := h.upd hu (by simp)
theorem TunAt.lt (h : TunAt w b t own) : ∀ k, k ∈ own → k < w.heap.size := by
  obtain ⟨bd, od, bw, ow, h1, h2, h3, h4, h5, h6, rfl⟩ := h
  intro k hk
  simp only [List.mem_cons, List.mem_append] at hk
  rcases hk with rfl | hk | hk
  · exact h1.lt
  · exact h2.lt k hk
  · exact h3.lt k hk
end
end Go.Proofs.YtolfjfkkbhbbbaaGreat
namespace Go.Proofs.YtolfjfkkbhbbbaaGreat
open Go.RowKit
set_option linter.unusedSimpArgs false
set_option linter.unusedVariables false
set_option maxRecDepth 20000

theorem tnone_nil (w : World) : Calls Tryz.prog 34 #[.pointer none] w fun e w' => e = .returned (.bool true) ∧ w = w' := by
  go_enter Tryz.func34, Tryz.ntmps34
  go_wp2_with fail
  go_ret
  exact ⟨rfl, rfl⟩
theorem tnone_zero (b : Nat) (cs : Array Value) (w : World) (hb : Blk w b 70 cs) (h9 : cs[9]? = some (.pointer none)) :
    Calls Tryz.prog 34 #[.pointer (some ⟨b, 0, none⟩)] w fun e w' => e = .returned (.bool true) ∧ w = w' := by
  have c9 := hb.cell 9
  rw [h9] at c9
  clear hb h9
  go_enter Tryz.func34, Tryz.ntmps34
  go_wp2_with fail
  go_ret
  exact ⟨rfl, rfl⟩
theorem tnone_any (b bw : Nat) (t : Tn) (vd : Value) (w : World) (hb : Blk w b 70 (t.cells vd (.pointer (some ⟨bw, 0, none⟩)))) :
    Calls Tryz.prog 34 #[.pointer (some ⟨b, 0, none⟩)] w fun e w' => e = .returned (.bool false) ∧ w = w' := by
  have c9 := hb.cell 9
  simp [Tn.cells] at c9
  clear hb
  go_enter Tryz.func34, Tryz.ntmps34
  go_wp2_with fail
  go_ret
  exact ⟨rfl, rfl⟩

theorem state_any {w : World} {b : Nat} {t : Tn} {own : List Nat} (h : TunAt w b t own) :
    Calls Tryz.prog 14 #[.pointer (some ⟨b, 0, none⟩)] w fun e w' => e = .returned (.int .i64 t.state) ∧ w = w' := by
  obtain ⟨bd, od, bw, ow, hb, -, -, -, -, -, -⟩ := h
  have c10 := hb.cell 10
  simp [Tn.cells] at c10
  have HN := Lib.hid (tnone_any b bw t _ w hb)
  clear hb
  go_enter Tryz.func14, Tryz.ntmps14
  go_wp2_with fail
  refine HN.out.mono ?_
  rintro e w' ⟨rfl, rfl⟩
  go_wp2_with fail
  go_ret
  exact ⟨rfl, rfl⟩
theorem peer_any {w : World} {b : Nat} {t : Tn} {own : List Nat} (h : TunAt w b t own) :
    Calls Tryz.prog 33 #[.pointer (some ⟨b, 0, none⟩)] w fun e w' => e = .returned (.string t.peer) ∧ w = w' := by
  obtain ⟨bd, od, bw, ow, hb, -, -, -, -, -, -⟩ := h
  have c10 := hb.cell 12
  simp [Tn.cells] at c10
  have HN := Lib.hid (tnone_any b bw t _ w hb)
  clear hb
  go_enter Tryz.func33, Tryz.ntmps33
  go_wp2_with fail
  refine HN.out.mono ?_
  rintro e w' ⟨rfl, rfl⟩
  go_wp2_with fail
  go_ret
  exact ⟨rfl, rfl⟩
theorem ids_any {w : World} {b : Nat} {t : Tn} {own : List Nat} (h : TunAt w b t own) :
    Calls Tryz.prog 23 #[.pointer (some ⟨b, 0, none⟩)] w fun e w' => e = .returned (.tuple #[.int .i64 t.cid, .int .i64 t.id]) ∧ ∃ k, w' = w.drewN k := by
  obtain ⟨bd, od, bw, ow, hb, -, -, -, -, -, -⟩ := h
  have c2 := hb.cell 2
  have c11 := hb.cell 11
  simp [Tn.cells] at c2 c11
  have HN := Lib.hid (tnone_any b bw t _ w hb)
  clear hb
  go_enter Tryz.func23, Tryz.ntmps23
  go_wp2_with fail
  refine HN.out.mono ?_
  rintro e w' ⟨rfl, rfl⟩
  go_wp2_with fail
  go_quiet (fail)
  go_wp2_with fail
  go_ret2
  exact ⟨rfl, _, rfl⟩

/-- Two bytes of a number in range. -/
theorem be2_eq (v : Int) (hv : 0 ≤ v ∧ v < 65536) : be 2 v = strOfNums [v / 256, v % 256] := by
  have h1 : byteAt v 2 0 = v / 256 := by simp [byteAt]; omega
  have h2 : byteAt v 2 1 = v % 256 := by simp [byteAt]
  show strOfNums [byteAt v 2 0, byteAt v 2 1] = _
  rw [h1, h2]
theorem two_any (v : Int) (hv : 0 ≤ v ∧ v < 65536) (w : World) :
    Calls Tryz.prog 50 #[.int .i64 v] w fun e w' => e = .returned (.string (be 2 v)) ∧ Upd [] w w' := by
  have HB := Lib.hid (be2_eq v hv)
  rw [HB.out]
  have hcv := str2 (P := Tryz.prog) (dst := 9) Tryz.underlying52 Tryz.underlying5 Tryz.underlying9 (Blk.new w 5 #[.int .u8 (v / 256), .int .u8 (v % 256)])
  generalize strOfNums [v / 256, v % 256] = s at *
  go_enter Tryz.func50, Tryz.ntmps50
  go_wp2_with fail
  go_ret
  exact ⟨rfl, (Upd.refl _ _).alloc _⟩
def txtAv (kind : Int) (s : ByteArray) : Av := ⟨true, false, 0, kind, s⟩
set_option maxHeartbeats 4000000 in
theorem ttext_any (kind : Int) (s : ByteArray) (w : World) :
    Calls Tryz.prog 37 #[.int .i64 kind, .string s] w fun e w' => e = .returned (.agg #[.bool true, .bool false, .int .i64 0, .int .i64 kind, .string s]) ∧ Upd [] w w' := by
  go_enter Tryz.func37, Tryz.ntmps37
  go_wp2_with fail
  have RR := Blk.new w 51 #[.bool true, .bool false, .int .i64 0, .int .i64 kind, .string s]
  have q0 := RR.cell 0
  have q1 := RR.cell 1
  have q2 := RR.cell 2
  have q3 := RR.cell 3
  have q4 := RR.cell 4
  simp at q0 q1 q2 q3 q4
  exact bodyPost_ret (v := .agg #[.bool true, .bool false, .int .i64 0, .int .i64 kind, .string s]) (by simp [results, Tryz.results37, go_sem, q0, q1, q2, q3, q4]) rfl ⟨rfl, (Upd.refl [] w).alloc _⟩
end Go.Proofs.YtolfjfkkbhbbbaaGreat
namespace Go.Proofs.YtolfjfkkbhbbbaaGreat
open Go.RowKit
set_option linter.unusedSimpArgs false
set_option linter.unusedVariables false
set_option maxRecDepth 20000

/-- A text's number, as the program counts it. -/
def tieOf (s : ByteArray) : Int := num s 0 s.size % 18446744073709551616
theorem or_u64 (a y : Int) (ha : 0 ≤ a) (hy : 0 ≤ y ∧ y < 256) : bits .or .u64 (IntKind.u64.wrap (a * 256)) y = (a * 256 + y) % 18446744073709551616 := by
  have hw : IntKind.u64.wrap (a * 256) = a * 256 % 18446744073709551616 := by simp [IntKind.wrap, IntKind.bits, IntKind.signed]
  rw [hw]
  clear hw
  obtain ⟨m, rfl⟩ := Int.eq_ofNat_of_zero_le ha
  obtain ⟨y, rfl⟩ := Int.eq_ofNat_of_zero_le hy.1
  obtain ⟨z, hz⟩ : ∃ z : Nat, m * 256 % 18446744073709551616 = z * 256 ∧ z < 72057594037927936 := ⟨m % 72057594037927936, by omega, by omega⟩
  have e : ((m : Int) * 256 % 18446744073709551616) = ((z * 256 : Nat) : Int) := by rw [← hz.1]; simp
  rw [e]
  show IntKind.u64.wrap ((BitVec.ofInt 64 ((z * 256 : Nat) : Int) ||| BitVec.ofInt 64 (y : Int)).toNat : Nat) = _
  rw [BitVec.ofInt_natCast, BitVec.ofInt_natCast, BitVec.toNat_or, BitVec.toNat_ofNat, BitVec.toNat_ofNat, Nat.mod_eq_of_lt (by omega), Nat.mod_eq_of_lt (by omega), show z * 256 = 2 ^ 8 * z by omega, ← Nat.two_pow_add_eq_or_of_lt (by omega)]
  simp [IntKind.wrap, IntKind.bits, IntKind.signed]
  omega

set_option maxHeartbeats 1000000 in
theorem tnumber_any (s : ByteArray) (hs : s.size ≤ maxLen) (w : World) :
    Calls Tryz.prog 35 #[.string s] w fun e w' => e = .returned (.int .u64 (tieOf s)) ∧ Upd [] w w' := by
  simp only [maxLen] at hs
  obtain ⟨n, hn⟩ : ∃ n, s.size = n := ⟨_, rfl⟩
  have HT : Hid (tieOf s = num s 0 n % 18446744073709551616) := by show _ = _; rw [tieOf, hn]
  rw [HT.out]
  go_enter Tryz.func35, Tryz.ntmps35
  go_wp2_with fail
  go_loopg [3, 7] n (fun m s3 s7 wr => ∃ (k : Nat) (x : Int), k + m = n ∧ s7 = .int .i64 k ∧ s3 = .int .u64 x ∧ x = num s 0 k % 18446744073709551616 ∧ 0 ≤ x ∧ x < 18446744073709551616 ∧ Upd [] w wr)
  case atStart => exact ⟨0, 0, by omega, rfl, rfl, rfl, by omega, by omega, Upd.refl _ _⟩
  case round =>
    obtain ⟨k, x, hk, rfl, rfl, hx, h0, h1, hu⟩ := hrel
    by_cases t : k < n
    · have q0 := byte_get s k (by omega)
      have hb := byte_bd s k
      have hor := or_u64 x (byte s k) h0 hb
      have HX : Hid ((x * 256 + byte s k) % 18446744073709551616 = num s 0 (k + 1) % 18446744073709551616) := by
        show _ = _
        rw [hx, num, Nat.zero_add]
        omega
      have HU := Lib.hid hu
      generalize byte s k = y at *
      obtain ⟨z, hz⟩ : ∃ z, (x * 256 + y) % 18446744073709551616 = z := ⟨_, rfl⟩
      rw [hz] at hor
      have HZ := Lib.hid hz
      clear hx hu hz
      go_wp2_with fail
      go_roundg (n - (k + 1))
      case rel => exact ⟨k + 1, z, by omega, by go_num, rfl, by rw [← HZ.out, HX.out], by have := HZ.out; omega, by have := HZ.out; omega, HU.out⟩
      case measure => omega
    · obtain rfl : k = n := by omega
      have HX := Lib.hid hx
      clear hx
      go_wp2_with fail
      go_ret
      exact ⟨by rw [← HX.out]; rfl, hu⟩
end Go.Proofs.YtolfjfkkbhbbbaaGreat
