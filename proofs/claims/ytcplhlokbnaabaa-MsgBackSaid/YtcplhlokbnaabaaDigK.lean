/- The walk of digest.masked, Mask, Unmask. -/
import Derived.Test.YtcplhlokbnaabaaDigM
import Derived.Test.YtcplhlokbnaabaaStrs
import Derived.Deep.WholeRow
import Derived.Laws.IdiomStrings
namespace Go.Proofs.Ytcplhlokbnaabaa
open Go.RowKit
set_option linter.unusedSimpArgs false
set_option linter.unusedVariables false
set_option maxRecDepth 20000

/-- Byte j of a string, as a number. -/
def sb (s : ByteArray) (j : Nat) : Nat := ((s.data[j]?).getD 0).toNat
theorem sb_lt (s : ByteArray) (j : Nat) : sb s j < 256 := ((s.data[j]?).getD 0).toNat_lt
theorem bytesRow_get (s : ByteArray) (cap j : Nat) (h : j < s.size) : (bytesRow s cap)[j]? = some (.int .u8 (sb s j)) := by
  have h' : j < s.data.size := h
  simp only [bytesRow, sb, Array.getElem?_append, Array.size_map]
  rw [if_pos h', Array.getElem?_map, Array.getElem?_eq_getElem h']
  rfl
theorem bytes_of_string (s : ByteArray) (W : World) : ∃ cap w', (convert 9 69 (.string s)).run Try.prog W = .ok (.slice (some ⟨W.heap.size, 0, none⟩) s.size cap) w' ∧ s.size ≤ cap ∧
    (∀ j, j < s.size → w'.cell? ⟨W.heap.size, j, none⟩ = some (.int .u8 (sb s j))) ∧ (∀ j, j < s.size → w'.frozen? ⟨W.heap.size, j, none⟩ = false) ∧ Upd [] W w' ∧ W.heap.size < w'.heap.size := by
  refine ⟨_, _, run_bytes_of_string W 9 69 5 s Try.underlying9 Try.underlying69 Try.underlying5, ?_, fun j hj => ?_, fun j hj => ?_, ((Upd.refl _ _).drew).alloc _, by simp⟩
  · exact grownCap_ge _ _ _ _
  · have h := heap_alloc_new W.drew (Obj.cells (bytesRow s (grownCap W s.size 0 5)) 5 ((bytesRow s (grownCap W s.size 0 5)).size, (bytesRow s (grownCap W s.size 0 5)).size + 1))
    rw [show W.drew.heap.size = W.heap.size from rfl] at h
    rw [cell_of_row _ _ j _ _ _ h, bytesRow_get _ _ _ hj]
  · have h := heap_alloc_new W.drew (Obj.cells (bytesRow s (grownCap W s.size 0 5)) 5 ((bytesRow s (grownCap W s.size 0 5)).size, (bytesRow s (grownCap W s.size 0 5)).size + 1))
    rw [show W.drew.heap.size = W.heap.size from rfl] at h
    have hz : s.size ≤ (bytesRow s (grownCap W s.size 0 5)).size := by
      show s.size ≤ (_ ++ _ : Array Value).size
      rw [Array.size_append, Array.size_map]
      exact Nat.le_add_right _ _
    unfold World.frozen?
    rw [h]
    simp
    omega

theorem xorB_eq (s d : ByteArray) : xorB s d = strOfNums ((List.range s.size).map fun i => ((sb s i ^^^ md5At d i : Nat) : Int)) := rfl
theorem xor_u8 (x y : Nat) (hx : x < 256) (hy : y < 256) : bits .xor .u8 (x : Int) (y : Int) = ((x ^^^ y : Nat) : Int) := by
  show IntKind.u8.wrap ((BitVec.ofInt 8 (x : Int) ^^^ BitVec.ofInt 8 (y : Int)).toNat : Nat) = _
  rw [BitVec.ofInt_natCast, BitVec.ofInt_natCast, BitVec.toNat_xor, BitVec.toNat_ofNat, BitVec.toNat_ofNat, Nat.mod_eq_of_lt (by simpa using hx), Nat.mod_eq_of_lt (by simpa using hy)]
  have := xor_lt256 hx hy
  generalize x ^^^ y = z at this
  simp [IntKind.wrap, IntKind.bits, IntKind.signed]
  omega

set_option maxHeartbeats 4000000 in
theorem masked_any (un : Bool) (f : Nat) (hcf : ∀ x y W, (callFunc f #[x, y]).run Try.prog W = .ok (.enter f #[x, y]) W)
    (hf : ∀ i o W, Calls Try.prog f #[.string i, .string o] W fun e w' => e = .returned (.string (if un = true then i else o)) ∧ W = w')
    (kind : Int) (secret vector v : ByteArray) (hk : 0 ≤ kind ∧ kind < 65536) (hs : secret.size ≤ 400000) (hvz : vector.size ≤ 400000) (hv : v.size ≤ 400000) (w : World) :
    Calls Try.prog 58 #[.int .i64 kind, .string secret, .string vector, .string v, .func (.func f) #[] #[]] w fun e w' => e = .returned (.string (maskB un kind secret vector v)) ∧ Upd [] w w' := by
  obtain ⟨M, hM⟩ : ∃ M, maskB un kind secret vector v = M := ⟨_, rfl⟩
  obtain ⟨K0, hK0⟩ : ∃ K0, keyB kind secret vector = K0 := ⟨_, rfl⟩
  have HM : Hid (maskL un secret v.size K0 v = M) := by show _ = _; rw [← hM, maskB, hK0]
  have hKz : K0.size = 2 + secret.size + vector.size := by rw [← hK0, keyB, ByteArray.size_append, ByteArray.size_append, strOfNums_size]; rfl
  have HMz : Hid (∀ l : Nat, True) := fun _ => trivial
  rw [hM]
  have hcv := str2 Try.underlying69 Try.underlying5 Try.underlying9 (Blk.new w 5 #[.int .u8 (kind / 256), .int .u8 (kind % 256)])
  have ha1 := run_string_add_sum (P := Try.prog) (w.alloc (.cells #[.int .u8 (kind / 256), .int .u8 (kind % 256)] 5)) (strOfNums [kind / 256, kind % 256]) secret (by rw [strOfNums_size]; simp; omega)
  have ha2 := run_string_add_sum (P := Try.prog) (w.alloc (.cells #[.int .u8 (kind / 256), .int .u8 (kind % 256)] 5)) (strOfNums [kind / 256, kind % 256] ++ secret) vector (by rw [ByteArray.size_append, strOfNums_size]; simp; omega)
  rw [show strOfNums [kind / 256, kind % 256] ++ secret ++ vector = K0 from hK0] at ha2
  have hU0 : Upd [] w (w.alloc (.cells #[.int .u8 (kind / 256), .int .u8 (kind % 256)] 5)) := (Upd.refl _ _).alloc _
  clear hM hK0
  go_enter Try.func58, Try.ntmps58
  go_wp2_with fail
  generalize w.alloc (.cells #[.int .u8 (kind / 256), .int .u8 (kind % 256)] 5) = w1 at *
  clear hcv ha1 ha2
  go_loopg [3, 11, 12] v.size (fun m s3 s11 s12 wr => ∃ r key out : ByteArray, s3 = .string r ∧ s11 = .string key ∧ s12 = .string out ∧ r.size = m ∧ r.size ≤ v.size ∧ key.size ≤ 900000 ∧ out.size + r.size = v.size ∧ out ++ maskL un secret r.size key r = M ∧ Upd [] w wr)
  case atStart => exact ⟨v, K0, ⟨#[]⟩, rfl, rfl, rfl, rfl, Nat.le_refl _, by omega, by show 0 + v.size = v.size; omega, by rw [HM.out]; exact ByteArray.empty_append, hU0⟩
  case round =>
    clear HM hKz
    obtain ⟨r, key, out, rfl, rfl, rfl, hrm, hrv, hkz, hor, hm, hu⟩ := hrel
    by_cases t : r.size = 0
    · have e0 := str_empty_t t
      have HM : Hid (out = M) := by
        show _ = _
        rw [← hm, t, maskL]
        exact ByteArray.append_empty.symm
      clear hm t
      go_wp2_with fail
      go_ret
      rw [HM.out]
      exact ⟨rfl, hu⟩
    · have e0 := str_empty_f t
      obtain ⟨m, hmm⟩ : ∃ m, min 16 r.size = m := ⟨_, rfl⟩
      have hm16 : m ≤ 16 := by omega
      have hmr : m ≤ r.size := by omega
      have hm0 : 0 < m := by omega
      have hmi : min (16 : Int) (r.size : Int) = (m : Int) := by omega
      obtain ⟨i, hi⟩ : ∃ i, r.extract 0 m = i := ⟨_, rfl⟩
      have hiz : i.size = m := by rw [← hi, ByteArray.size_extract]; omega
      obtain ⟨r2, hr2⟩ : ∃ r2, r.extract m r.size = r2 := ⟨_, rfl⟩
      have hr2z : r2.size = r.size - m := by rw [← hr2, ByteArray.size_extract]; omega
      obtain ⟨o, ho⟩ : ∃ o, xorB i key = o := ⟨_, rfl⟩
      have hoz : o.size = m := by rw [← ho, xorB_size, hiz]
      have HN : Hid (out ++ o ++ maskL un secret r2.size (secret ++ (if un = true then i else o)) r2 = M) := by
        show _ = _
        rw [← hm]
        obtain ⟨z, hz⟩ : ∃ z, r.size = z + 1 := ⟨r.size - 1, by omega⟩
        rw [hz, maskL, if_neg t, hmm, hi, hr2]
        dsimp only
        rw [ho, ByteArray.append_assoc, maskL_more un secret z r2.size _ _ (by omega) (Nat.le_refl _)]
      obtain ⟨nx, hnx⟩ : ∃ nx, (if un = true then i else o) = nx := ⟨_, rfl⟩
      have hnxz : nx.size ≤ 16 := by rw [← hnx]; split <;> omega
      rw [hnx] at HN
      have HO : Hid (o = strOfNums ((List.range m).map fun j => ((sb i j ^^^ md5At key j : Nat) : Int))) := by show _ = _; rw [← ho, xorB_eq, hiz]
      have HF := Lib.hid (hf i o)
      rw [hnx] at HF
      have HX := Lib.hid hr2
      have HI := Lib.hid hi
      have HU := Lib.hid hu
      have HMD := Lib.hid (md5_any key (by omega))
      rw [hrm] at hmi hr2
      clear hm hu hmm ho hnx
      go_wp2_with fail
      refine (HMD.out _).mono ?_
      rintro e w2 ⟨rfl, hu2⟩
      have HU2 := Lib.hid (HU.out.trans hu2)
      clear hu2
      have hst := run_storeCells_new (P := Try.prog) w2 107 #[Value.int .u8 0, Value.int .u8 0, Value.int .u8 0, Value.int .u8 0, Value.int .u8 0, Value.int .u8 0, Value.int .u8 0, Value.int .u8 0, Value.int .u8 0, Value.int .u8 0, Value.int .u8 0, Value.int .u8 0, Value.int .u8 0, Value.int .u8 0, Value.int .u8 0, Value.int .u8 0] (md5Row key) (by kernel_rfl) rfl (by simp [md5Row, Value.oneCell'])
      have B3 := Blk.new w2 107 (md5Row key)
      have HU3 := Lib.hid (HU2.out.alloc (Obj.cells (md5Row key) 107))
      obtain ⟨cap, w4, hconv, hcap, hcc, hff, hu4, hlt⟩ := bytes_of_string i (w2.alloc (Obj.cells (md5Row key) 107))
      rw [World.size_alloc] at hconv hcc hff hlt
      rw [hiz] at hcc hff hconv hcap
      have B4 := Lib.hid (B3.upd hu4 (by simp))
      have HU4 := Lib.hid (HU3.out.trans hu4)
      have HCC := Lib.hid hcc
      have HFF := Lib.hid hff
      have hws := HU2.out.size
      clear B3 hu4 hcc hff
      go_wp2_with fail
      clear hconv hst
      go_loopg [45] m (fun p s45 wx => ∃ j : Nat, j + p = m ∧ s45 = .int .i64 j ∧ (∀ q, q < m → wx.cell? ⟨w2.heap.size + 1, q, none⟩ = some (.int .u8 ((if q < j then sb i q ^^^ md5At key q else sb i q : Nat) : Int))) ∧ (∀ q, q < m → wx.frozen? ⟨w2.heap.size + 1, q, none⟩ = false) ∧ Upd [w2.heap.size + 1] w4 wx)
      case atStart => exact ⟨0, by omega, rfl, fun q hq => by rw [HCC.out q hq, if_neg (by omega)], HFF.out, Upd.refl _ _⟩
      case round =>
        clear HCC HFF
        obtain ⟨j, hj, rfl, hcc, hff, hu⟩ := hrel
        by_cases t : j < m
        · have c0 := hcc j t
          rw [if_neg (by omega)] at c0
          have f0 := hff j t
          have d0 : wr.cell? ⟨w2.heap.size, j, none⟩ = some (.int .u8 (md5At key j)) := by
            rw [(B4.out.upd hu (by simp)).cell]
            simp [md5Row, show j < 16 by omega]
          have hx := xor_u8 (sb i j) (md5At key j) (sb_lt i j) (md5At_lt key j)
          have HCC := Lib.hid hcc
          have HFF := Lib.hid hff
          have HUU := Lib.hid hu
          clear hcc hff hu
          obtain ⟨x, hxx⟩ : ∃ x, sb i j ^^^ md5At key j = x := ⟨_, rfl⟩
          rw [hxx] at hx
          have HXX := Lib.hid hxx
          clear hxx
          go_wp2_with fail
          go_region
          have hcc' : ∀ q, q < m → ((wr.setCell ⟨w2.heap.size + 1, j, none⟩ (.int .u8 (x : Int))).drew).cell? ⟨w2.heap.size + 1, q, none⟩ = some (.int .u8 ((if q < j + 1 then sb i q ^^^ md5At key q else sb i q : Nat) : Int)) := by
            intro q hq
            show (wr.setCell ⟨w2.heap.size + 1, j, none⟩ (.int .u8 (x : Int))).cell? _ = _
            by_cases hqj : q = j
            · subst hqj
              rw [World.cell?_setCell_same _ _ _ c0, if_pos (by omega), HXX.out]
            · rw [World.cell?_setCell_other _ _ _ _ (fun e => hqj (by cases e; rfl)), HCC.out q hq]
              by_cases h3 : q < j
              · rw [if_pos h3, if_pos (by omega)]
              · rw [if_neg h3, if_neg (by omega)]
          have hff' : ∀ q, q < m → ((wr.setCell ⟨w2.heap.size + 1, j, none⟩ (.int .u8 (x : Int))).drew).frozen? ⟨w2.heap.size + 1, q, none⟩ = false := by
            intro q hq
            show (wr.setCell ⟨w2.heap.size + 1, j, none⟩ (.int .u8 (x : Int))).frozen? _ = _
            rw [World.frozen?_setCell, HFF.out q hq]
          have hu' : Upd [w2.heap.size + 1] w4 ((wr.setCell ⟨w2.heap.size + 1, j, none⟩ (.int .u8 (x : Int))).drew) := (HUU.out.setCell _ (.inl (by simp))).drew
          clear c0 f0 d0 hx
          generalize (wr.setCell ⟨w2.heap.size + 1, j, none⟩ (.int .u8 (x : Int))).drew = W at *
          go_wp2_with fail
          go_roundg (m - (j + 1))
          case rel => exact ⟨j + 1, by omega, by go_num, hcc', hff', hu'⟩
          case measure => omega
        · obtain rfl : j = m := by omega
          have HUU : Hid (Upd [] w wr) := HU4.out.trans' hu (fun x hx => .inr (by simp at hx; omega))
          have hcv2 := run_convert_bytes_arg wr 69 5 Try.underlying69 Try.underlying5 (w2.heap.size + 1) 0 j cap ((List.range j).map fun q => ((sb i q ^^^ md5At key q : Nat) : Int)) (by simp)
            (fun q hq => by rw [Nat.zero_add, hcc q hq, if_pos hq]; simp [hq]) 9 Try.underlying9
          rw [← HO.out] at hcv2
          have ha1 := run_string_add_sum (P := Try.prog) wr out o (by omega)
          have ha2 := run_string_add_sum (P := Try.prog) wr secret nx (by omega)
          have hcall := hcf (.string i) (.string o)
          clear hcc hff hu
          go_wp2_with fail
          refine (HF.out _).mono ?_
          rintro e w5 ⟨rfl, rfl⟩
          go_wp2_with fail
          go_roundg (r.size - j)
          case rel => exact ⟨r2, secret ++ nx, out ++ o, rfl, rfl, rfl, by omega, by omega, by rw [ByteArray.size_append]; omega, by rw [ByteArray.size_append]; omega, HN.out, HUU.out⟩
          case measure => omega

set_option maxHeartbeats 400000 in
theorem mask1_any (i o : ByteArray) (w : World) : Calls Try.prog 59 #[.string i, .string o] w fun e w' => e = .returned (.string o) ∧ w = w' := by
  go_enter Try.func59, Try.ntmps59
  go_wp2_with fail
  go_ret
  exact ⟨rfl, rfl⟩
set_option maxHeartbeats 400000 in
theorem unmask1_any (i o : ByteArray) (w : World) : Calls Try.prog 61 #[.string i, .string o] w fun e w' => e = .returned (.string i) ∧ w = w' := by
  go_enter Try.func61, Try.ntmps61
  go_wp2_with fail
  go_ret
  exact ⟨rfl, rfl⟩
set_option maxHeartbeats 400000 in
theorem mask_any (kind : Int) (secret vector v : ByteArray) (hk : 0 ≤ kind ∧ kind < 65536) (hs : secret.size ≤ 400000) (hvz : vector.size ≤ 400000) (hv : v.size ≤ 400000) (w : World) :
    Calls Try.prog 54 #[.int .i64 kind, .string secret, .string vector, .string v] w fun e w' => e = .returned (.string (maskB false kind secret vector v)) ∧ Upd [] w w' := by
  have H := Lib.hid (masked_any false 59 (fun _ _ _ => by kernel_rfl) (fun i o W => by simpa using mask1_any i o W) kind secret vector v hk hs hvz hv)
  generalize maskB false kind secret vector v = r at *
  clear hk hs hvz hv
  go_enter Try.func54, Try.ntmps54
  go_wp2_with fail
  refine (H.out _).mono ?_
  rintro e w5 ⟨rfl, hu⟩
  go_wp2_with fail
  go_ret
  exact ⟨rfl, hu⟩
set_option maxHeartbeats 400000 in
theorem unmask_any (kind : Int) (secret vector v : ByteArray) (hk : 0 ≤ kind ∧ kind < 65536) (hs : secret.size ≤ 400000) (hvz : vector.size ≤ 400000) (hv : v.size ≤ 400000) (w : World) :
    Calls Try.prog 56 #[.int .i64 kind, .string secret, .string vector, .string v] w fun e w' => e = .returned (.string (maskB true kind secret vector v)) ∧ Upd [] w w' := by
  have H := Lib.hid (masked_any true 61 (fun _ _ _ => by kernel_rfl) (fun i o W => by simpa using unmask1_any i o W) kind secret vector v hk hs hvz hv)
  generalize maskB true kind secret vector v = r at *
  clear hk hs hvz hv
  go_enter Try.func56, Try.ntmps56
  go_wp2_with fail
  refine (H.out _).mono ?_
  rintro e w5 ⟨rfl, hu⟩
  go_wp2_with fail
  go_ret
  exact ⟨rfl, hu⟩
end Go.Proofs.Ytcplhlokbnaabaa
