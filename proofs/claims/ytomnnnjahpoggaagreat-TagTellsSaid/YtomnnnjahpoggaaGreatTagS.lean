/- The walks of the document's own answer to chapter 5: PutTags, GetTags. -/
import Derived.Test.YtomnnnjahpoggaaGreatTagR
import Derived.Test.YtomnnnjahpoggaaGreatRd
namespace Go.Proofs.YtomnnnjahpoggaaGreat
open Go.RowKit
set_option linter.unusedSimpArgs false
set_option linter.unusedVariables false
set_option maxRecDepth 100000

def totT (l : List Tg) : Nat := (l.map fun t => 4 + t.s.size).sum
def catT : List Tg → ByteArray
  | [] => ⟨#[]⟩
  | t :: l => t.bytes ++ catT l
theorem totT_cons (t : Tg) (l : List Tg) : totT (t :: l) = 4 + t.s.size + totT l := by simp [totT]
theorem totT_snoc (t : Tg) (l : List Tg) : totT (l ++ [t]) = totT l + (4 + t.s.size) := by simp [totT]
theorem bs_nil (s : ByteArray) : s ++ (⟨#[]⟩ : ByteArray) = s := by apply ByteArray.ext; simp
theorem bs_nil_l (s : ByteArray) : (⟨#[]⟩ : ByteArray) ++ s = s := by apply ByteArray.ext; simp
theorem catT_snoc (t : Tg) (l : List Tg) : catT (l ++ [t]) = catT l ++ t.bytes := by
  induction l with
  | nil => show t.bytes ++ ⟨#[]⟩ = ⟨#[]⟩ ++ t.bytes; rw [bs_nil, bs_nil_l]
  | cons a l ih => rw [List.cons_append, catT, ih, catT, ByteArray.append_assoc]
theorem catT_size (l : List Tg) : (catT l).size = totT l := by
  induction l with
  | nil => rfl
  | cons a l ih => rw [catT, ByteArray.size_append, ih, totT_cons, Tg.bytes_size]
theorem putFrom_eq (l : List Tg) : ∀ out : ByteArray, out.size ≤ 1494 → putFrom l out = if 1494 < out.size + totT l then (⟨#[]⟩, 2) else (out ++ catT l, 0) := by
  induction l with
  | nil =>
    intro out h
    rw [putFrom, if_neg (by simp [totT]; omega)]
    rw [catT, bs_nil]
  | cons t l ih =>
    intro out h
    rw [putFrom, totT_cons]
    by_cases h1 : 1494 < t.s.size ∨ 1494 < out.size + t.s.size + 4
    · rw [if_pos h1, if_pos (by omega)]
    · rw [if_neg h1, ih _ (by rw [ByteArray.size_append, Tg.bytes_size]; omega), ByteArray.size_append, Tg.bytes_size]
      have e : out.size + (4 + t.s.size) + totT l = out.size + (4 + t.s.size + totT l) := by omega
      rw [e, catT, ByteArray.append_assoc]
theorem totT_take_le (l : List Tg) (k : Nat) : totT (l.take k) ≤ totT l := by
  have h : totT l = totT (l.take k) + totT (l.drop k) := by
    conv => lhs; rw [← List.take_append_drop k l]
    unfold totT
    rw [List.map_append, List.sum_append]
  omega
theorem totT_bd (l : List Tg) (h : ∀ t ∈ l, t.s.size ≤ 140737488355328) : totT l ≤ l.length * 140737488355332 := by
  induction l with
  | nil => simp [totT]
  | cons a l ih =>
    have h1 := ih fun t ht => h t (by simp [ht])
    have h2 := h a (by simp)
    rw [totT_cons, List.length_cons, Nat.add_mul]
    omega

set_option maxHeartbeats 2000000 in
theorem rputTags_any (l : List Tg) (v : Value) (w : World) (hl : TgsAt w v l) (hs : ∀ t ∈ l, t.s.size ≤ 140737488355328) :
    Calls Tryz.prog 12 #[v] w fun e w' => e = .returned (.tuple #[.string (putTgs l).1, .int .i64 (putTgs l).2]) ∧ Upd [] w w' := by
  obtain ⟨ao, cap, rfl, h1, h2, h3⟩ := id hl
  obtain ⟨n, hn⟩ : ∃ n, n = l.length := ⟨_, rfl⟩
  have HQ : Hid (putTgs l = (if 20 < n then (⟨#[]⟩, 2) else if l.any Tg.wrong = true then (⟨#[]⟩, 1) else putFrom l ⟨#[]⟩)) := by show _ = _; rw [hn]; rfl
  rw [HQ.out]
  rw [← hn] at h1
  rw [← hn]
  have HL := Lib.hid hl
  have HN := Lib.hid hn
  have HS := Lib.hid hs
  have HT := Lib.hid (totT_bd l hs)
  simp only [maxLen] at h2
  clear h3 hl hn hs HQ
  by_cases t1 : 20 < n
  · rw [if_pos t1]
    have t1' : (20 : Int) < n := by omega
    go_enter Tryz.func12, Tryz.ntmps12
    go_wp2_with fail
    go_ret2
    exact ⟨rfl, Upd.refl _ _⟩
  rw [if_neg t1]
  have t1' : ¬ (20 : Int) < n := by omega
  obtain ⟨R, hR⟩ : ∃ R, R = (if l.any Tg.wrong = true then ((⟨#[]⟩, 1) : ByteArray × Int) else putFrom l ⟨#[]⟩) := ⟨_, rfl⟩
  rw [← hR]
  have HR := Lib.hid hR
  clear hR
  go_enter Tryz.func12, Tryz.ntmps12
  go_wp2_with fail
  go_loopg [4, 5] n (fun m s4 s5 wr => ∃ (k z : Nat), k + m = n ∧ s5 = .int .i64 k ∧ s4 = .int .i64 z ∧ z = totT (l.take k) ∧ z ≤ 2814749767106640 ∧ (∀ t ∈ l.take k, Tg.wrong t = false) ∧ Upd [] w wr)
  case atStart => exact ⟨0, 0, by omega, rfl, rfl, rfl, by omega, by simp, Upd.refl _ _⟩
  case round =>
    obtain ⟨k, z, hk, rfl, rfl, hz, hzb, hw, hu⟩ := hrel
    have HU := Lib.hid hu
    by_cases t : k < n
    · obtain ⟨x, hx⟩ : ∃ x, l[k]? = some x := by
        have := HN.out
        exact ⟨_, List.getElem?_eq_getElem (by omega)⟩
      have hsz := HS.out x (List.mem_of_getElem? hx)
      obtain ⟨ao', cap', e0, _, _, h3⟩ := HL.out.upd hu
      injection e0 with e0 _ e2
      subst e0 e2
      obtain ⟨q, rfl, c0, c1⟩ := h3 k x hx
      clear h3
      have htk : l.take (k + 1) = l.take k ++ [x] := by
        obtain ⟨h5, h6⟩ := List.getElem?_eq_some_iff.1 hx
        rw [List.take_succ_eq_append_getElem h5, h6]
      by_cases t2 : 1 ≤ x.k ∧ x.k ≤ 65535
      · obtain ⟨t3, t4⟩ := t2
        have u3 : ¬ x.k < 1 := by omega
        have u4 : ¬ 65535 < x.k := by omega
        have hz2 : z + 4 + x.s.size = totT (l.take (k + 1)) := by rw [htk, totT_snoc, ← hz]; omega
        have hzb2 : z + 4 + x.s.size ≤ 2814749767106640 := by
          rw [hz2]
          have := totT_take_le l (k + 1)
          have := HT.out
          have := HN.out
          have h9 : l.length * 140737488355332 ≤ 20 * 140737488355332 := Nat.mul_le_mul_right _ (by omega)
          omega
        have HW := Lib.hid (And.intro hw (And.intro htk hz2))
        have HX4 : Hid (Tg.wrong x = false) := by show _ = _; simp [Tg.wrong, t3, t4]
        clear hw hz htk hz2 hx hu
        go_wp2_with fail
        go_roundg (n - (k + 1))
        case rel =>
          refine ⟨k + 1, z + 4 + x.s.size, by omega, by go_num, by go_num, HW.out.2.2, hzb2, ?_, HU.out⟩
          rw [HW.out.2.1]
          intro t ht
          rcases List.mem_append.1 ht with ht | ht
          · exact HW.out.1 t ht
          · simp at ht; subst ht; exact HX4.out
        case measure => omega
      · have hwx : Tg.wrong x = true := by simp [Tg.wrong]; omega
        have HE : Hid (R = (⟨#[]⟩, 1)) := by
          show _ = _
          rw [HR.out, if_pos (List.any_eq_true.2 ⟨x, List.mem_of_getElem? hx, hwx⟩)]
        clear hw hz htk hx hwx hu
        by_cases t3 : x.k < 1
        · clear t2
          go_wp2_with fail
          go_ret2
          rw [HE.out]
          exact ⟨rfl, HU.out⟩
        · have t4 : 65535 < x.k := by omega
          clear t2
          go_wp2_with fail
          go_ret2
          rw [HE.out]
          exact ⟨rfl, HU.out⟩
    · obtain rfl : k = n := by omega
      have hlk : l.take k = l := List.take_of_length_le (by have := HN.out; omega)
      rw [hlk] at hz hw
      have hany : l.any Tg.wrong = false := by
        rw [List.any_eq_false]
        intro t ht
        rw [hw t ht]; simp
      have HE : Hid (R = if 1494 < z then (⟨#[]⟩, 2) else (catT l, 0)) := by
        show _ = _
        rw [HR.out, hany, if_neg (by simp), putFrom_eq l ⟨#[]⟩ (by decide), hz, bs_nil_l]
        show (if 1494 < 0 + totT l then _ else _) = _
        rw [Nat.zero_add]
      have HWR : Hid (∀ t ∈ l, 1 ≤ t.k ∧ t.k ≤ 65535) := by
        show ∀ t ∈ l, 1 ≤ t.k ∧ t.k ≤ 65535
        intro t ht
        have := hw t ht
        simpa [Tg.wrong] using this
      have HZ := Lib.hid hz
      clear hz hw hlk hany hu
      by_cases t2 : 1494 < z
      · have t2' : (1494 : Int) < z := by omega
        have HE2 : Hid (R = (⟨#[]⟩, 2)) := by show _ = _; rw [HE.out, if_pos t2]
        go_wp2_with fail
        go_ret2
        rw [HE2.out]
        exact ⟨rfl, HU.out⟩
      · have t2' : ¬ (1494 : Int) < z := by omega
        have HE2 : Hid (R = (catT l, 0)) := by show _ = _; rw [HE.out, if_neg t2]
        go_wp2_with fail
        go_loopg [6, 7] k (fun m s6 s7 wr => ∃ (j : Nat) (o : ByteArray), j + m = k ∧ s7 = .int .i64 j ∧ s6 = .string o ∧ o = catT (l.take j) ∧ o.size ≤ 1494 ∧ Upd [] w wr)
        case atStart => exact ⟨0, ⟨#[]⟩, by omega, rfl, rfl, rfl, by decide, HU.out⟩
        case round =>
          obtain ⟨j, o, hj, rfl, rfl, ho, hos, hu⟩ := hrel
          have HU := Lib.hid hu
          by_cases t3 : j < k
          · obtain ⟨x, hx⟩ : ∃ x, l[j]? = some x := by
              have := HN.out
              exact ⟨_, List.getElem?_eq_getElem (by omega)⟩
            have hw := HWR.out x (List.mem_of_getElem? hx)
            obtain ⟨w0, w1⟩ := hw
            obtain ⟨ao', cap', e0, _, _, h3⟩ := HL.out.upd hu
            injection e0 with e0 _ e2
            subst e0 e2
            obtain ⟨q, rfl, c0, c1⟩ := h3 j x hx
            clear h3
            have htk : l.take (j + 1) = l.take j ++ [x] := by
              obtain ⟨h5, h6⟩ := List.getElem?_eq_some_iff.1 hx
              rw [List.take_succ_eq_append_getElem h5, h6]
            have hsum : o.size + (4 + x.s.size) ≤ 1494 := by
              have h1 := totT_take_le l (j + 1)
              rw [htk, totT_snoc, ← catT_size, ← ho] at h1
              have := HZ.out
              omega
            have HO : Hid (o ++ be 2 x.k ++ be 2 x.s.size ++ x.s = catT (l.take (j + 1))) := by
              show _ = _
              rw [htk, catT_snoc, ← ho, Tg.bytes, ByteArray.append_assoc, ByteArray.append_assoc, ByteArray.append_assoc]
            have hcells : ∀ W, Upd [] wr W → W.cell? (q.add (j * 2)) = some (.int .i64 x.k) ∧ W.cell? ⟨(q.add (j * 2)).block, (q.add (j * 2)).off + 1, none⟩ = some (.string x.s) := fun W h =>
              ⟨h.held c0, h.held c1⟩
            clear ho htk hu hx
            go_wp2_with fail
            refine wp_region_facts (.pure) (trivial) [.is (.string o), .is (.slice (some q) k cap), .is (.int .i64 j), .is (.pointer (some (q.add (j * 2)))), .is (.pointer (some (q.add (j * 2)))), .is (.int .i64 x.k), .is (.string (be 2 x.k)), .is (.string (o ++ be 2 x.k)), .is (.slice (some q) k cap), .is (.int .i64 j), .is (.pointer (some (q.add (j * 2)))), .is (.pointer (some ⟨(q.add (j * 2)).block, (q.add (j * 2)).off + 1, none⟩)), .is (.string x.s), .is (.int .i64 x.s.size), .is (.string (be 2 x.s.size)), .is (.string (o ++ be 2 x.k ++ be 2 x.s.size)), .is (.slice (some q) k cap), .is (.int .i64 j), .is (.pointer (some (q.add (j * 2)))), .is (.pointer (some ⟨(q.add (j * 2)).block, (q.add (j * 2)).off + 1, none⟩)), .is (.string x.s), .is (.string (o ++ be 2 x.k ++ be 2 x.s.size ++ x.s)), .is (.string (o ++ be 2 x.k ++ be 2 x.s.size ++ x.s))] (by kernel_rfl) (by kernel_rfl) (by kernel_rfl) (by kernel_rfl) ?_ ?_
            · refine Steps.cons ?_ (Steps.cons ?_ (Steps.cons ?_ (Steps.cons ?_ (Steps.cons ?_ (Steps.cons ?_ (Steps.cons ?_ (Steps.cons ?_ (Steps.cons ?_ (Steps.cons ?_ (Steps.cons ?_ (Steps.cons ?_ (Steps.cons ?_ (Steps.cons ?_ (Steps.cons ?_ (Steps.cons ?_ (Steps.cons ?_ (Steps.cons ?_ (Steps.cons ?_ (Steps.cons ?_ (Steps.cons ?_ (Steps.cons ?_ (Steps.cons ?_ Steps.nil))))))))))))))))))))))
              · refine step_is _ rfl ⟨_, rfl⟩ rfl (fun _ _ => trivial) ?_
                intro a W hi hF hD
                have hu := hi.upd
                have e6 : a.tmps[6]?.getD undef = _ := (ev a 6).symm.trans (hF 6 (by kernel_rfl))
                clear hF hD
                have hc := hcells W hu
                go_simp
              · refine step_is _ rfl ⟨_, rfl⟩ rfl (fun _ _ => trivial) ?_
                intro a W hi hF hD
                have hu := hi.upd
                have e0 : a.tmps[0]?.getD undef = _ := (ev a 0).symm.trans (hF 0 (by kernel_rfl))
                clear hF hD
                have hc := hcells W hu
                go_simp
              · refine step_is _ rfl ⟨_, rfl⟩ rfl (fun _ _ => trivial) ?_
                intro a W hi hF hD
                have hu := hi.upd
                have e7 : a.tmps[7]?.getD undef = _ := (ev a 7).symm.trans (hF 7 (by kernel_rfl))
                clear hF hD
                have hc := hcells W hu
                go_simp
              · refine step_is _ rfl ⟨_, rfl⟩ rfl (fun _ _ => trivial) ?_
                intro a W hi hF hD
                have hu := hi.upd
                have e49 : a.tmps[49]?.getD undef = .slice (some q) k cap := (ev a 49).symm.trans (hD _ (Array.mem_of_getElem? (i := 0) rfl) rfl).1
                have e50 : a.tmps[50]?.getD undef = .int .i64 j := (ev a 50).symm.trans (hD _ (Array.mem_of_getElem? (i := 1) rfl) rfl).1
                clear hF hD
                have hc := hcells W hu
                go_simp
              · refine step_is _ rfl ⟨_, rfl⟩ rfl (fun _ _ => trivial) ?_
                intro a W hi hF hD
                have hu := hi.upd
                have e51 : a.tmps[51]?.getD undef = .pointer (some (q.add (j * 2))) := (ev a 51).symm.trans (hD _ (Array.mem_of_getElem? (i := 0) rfl) rfl).1
                clear hF hD
                have hc := hcells W hu
                go_simp
              · refine step_is _ rfl ⟨_, rfl⟩ rfl (fun _ _ => trivial) ?_
                intro a W hi hF hD
                have hu := hi.upd
                have e52 : a.tmps[52]?.getD undef = .pointer (some (q.add (j * 2))) := (ev a 52).symm.trans (hD _ (Array.mem_of_getElem? (i := 0) rfl) rfl).1
                clear hF hD
                have hc := hcells W hu
                go_simp
              · refine step_call rfl (fun _ _ => trivial) ?_
                intro a W hi hF hD
                have hu := hi.upd
                have e53 : a.tmps[53]?.getD undef = .int .i64 x.k := (ev a 53).symm.trans (hD _ (Array.mem_of_getElem? (i := 0) rfl) rfl).1
                clear hF hD
                have hc := hcells W hu
                refine ⟨_, _, by (go_simp; first | done | rfl | exact ⟨rfl, rfl⟩), ?_⟩
                refine (rtwo_any x.k (by omega) _).mono ?_
                rintro e w2 ⟨rfl, hu2⟩
                first | exact ⟨_, rfl, hu2, rfl⟩ | (cases hu2; exact ⟨_, rfl, Upd.refl _ _, rfl⟩)
              · refine step_is _ rfl ⟨_, rfl⟩ rfl (fun _ _ => trivial) ?_
                intro a W hi hF hD
                have hu := hi.upd
                have e48 : a.tmps[48]?.getD undef = .string o := (ev a 48).symm.trans (hD _ (Array.mem_of_getElem? (i := 0) rfl) rfl).1
                have e54 : a.tmps[54]?.getD undef = .string (be 2 x.k) := (ev a 54).symm.trans (hD _ (Array.mem_of_getElem? (i := 1) rfl) rfl).1
                clear hF hD
                have hc := hcells W hu
                have := run_string_add_sum (P := Tryz.prog) W o (be 2 x.k) (by simp only [be_size, maxLen]; omega)
                go_simp
              · refine step_is _ rfl ⟨_, rfl⟩ rfl (fun _ _ => trivial) ?_
                intro a W hi hF hD
                have hu := hi.upd
                have e0 : a.tmps[0]?.getD undef = _ := (ev a 0).symm.trans (hF 0 (by kernel_rfl))
                clear hF hD
                have hc := hcells W hu
                go_simp
              · refine step_is _ rfl ⟨_, rfl⟩ rfl (fun _ _ => trivial) ?_
                intro a W hi hF hD
                have hu := hi.upd
                have e7 : a.tmps[7]?.getD undef = _ := (ev a 7).symm.trans (hF 7 (by kernel_rfl))
                clear hF hD
                have hc := hcells W hu
                go_simp
              · refine step_is _ rfl ⟨_, rfl⟩ rfl (fun _ _ => trivial) ?_
                intro a W hi hF hD
                have hu := hi.upd
                have e56 : a.tmps[56]?.getD undef = .slice (some q) k cap := (ev a 56).symm.trans (hD _ (Array.mem_of_getElem? (i := 0) rfl) rfl).1
                have e57 : a.tmps[57]?.getD undef = .int .i64 j := (ev a 57).symm.trans (hD _ (Array.mem_of_getElem? (i := 1) rfl) rfl).1
                clear hF hD
                have hc := hcells W hu
                go_simp
              · refine step_is _ rfl ⟨_, rfl⟩ rfl (fun _ _ => trivial) ?_
                intro a W hi hF hD
                have hu := hi.upd
                have e58 : a.tmps[58]?.getD undef = .pointer (some (q.add (j * 2))) := (ev a 58).symm.trans (hD _ (Array.mem_of_getElem? (i := 0) rfl) rfl).1
                clear hF hD
                have hc := hcells W hu
                go_simp
              · refine step_is _ rfl ⟨_, rfl⟩ rfl (fun _ _ => trivial) ?_
                intro a W hi hF hD
                have hu := hi.upd
                have e59 : a.tmps[59]?.getD undef = .pointer (some ⟨(q.add (j * 2)).block, (q.add (j * 2)).off + 1, none⟩) := (ev a 59).symm.trans (hD _ (Array.mem_of_getElem? (i := 0) rfl) rfl).1
                clear hF hD
                have hc := hcells W hu
                go_simp
              · refine step_is _ rfl ⟨_, rfl⟩ rfl (fun _ _ => trivial) ?_
                intro a W hi hF hD
                have hu := hi.upd
                have e60 : a.tmps[60]?.getD undef = .string x.s := (ev a 60).symm.trans (hD _ (Array.mem_of_getElem? (i := 0) rfl) rfl).1
                clear hF hD
                have hc := hcells W hu
                go_simp
              · refine step_call rfl (fun _ _ => trivial) ?_
                intro a W hi hF hD
                have hu := hi.upd
                have e61 : a.tmps[61]?.getD undef = .int .i64 x.s.size := (ev a 61).symm.trans (hD _ (Array.mem_of_getElem? (i := 0) rfl) rfl).1
                clear hF hD
                have hc := hcells W hu
                refine ⟨_, _, by (go_simp; first | done | rfl | exact ⟨rfl, rfl⟩), ?_⟩
                refine (rtwo_any x.s.size (by omega) _).mono ?_
                rintro e w2 ⟨rfl, hu2⟩
                first | exact ⟨_, rfl, hu2, rfl⟩ | (cases hu2; exact ⟨_, rfl, Upd.refl _ _, rfl⟩)
              · refine step_is _ rfl ⟨_, rfl⟩ rfl (fun _ _ => trivial) ?_
                intro a W hi hF hD
                have hu := hi.upd
                have e55 : a.tmps[55]?.getD undef = .string (o ++ be 2 x.k) := (ev a 55).symm.trans (hD _ (Array.mem_of_getElem? (i := 0) rfl) rfl).1
                have e62 : a.tmps[62]?.getD undef = .string (be 2 x.s.size) := (ev a 62).symm.trans (hD _ (Array.mem_of_getElem? (i := 1) rfl) rfl).1
                clear hF hD
                have hc := hcells W hu
                have := run_string_add_sum (P := Tryz.prog) W (o ++ be 2 x.k) (be 2 x.s.size) (by simp only [be_size, maxLen, ByteArray.size_append]; omega)
                go_simp
              · refine step_is _ rfl ⟨_, rfl⟩ rfl (fun _ _ => trivial) ?_
                intro a W hi hF hD
                have hu := hi.upd
                have e0 : a.tmps[0]?.getD undef = _ := (ev a 0).symm.trans (hF 0 (by kernel_rfl))
                clear hF hD
                have hc := hcells W hu
                go_simp
              · refine step_is _ rfl ⟨_, rfl⟩ rfl (fun _ _ => trivial) ?_
                intro a W hi hF hD
                have hu := hi.upd
                have e7 : a.tmps[7]?.getD undef = _ := (ev a 7).symm.trans (hF 7 (by kernel_rfl))
                clear hF hD
                have hc := hcells W hu
                go_simp
              · refine step_is _ rfl ⟨_, rfl⟩ rfl (fun _ _ => trivial) ?_
                intro a W hi hF hD
                have hu := hi.upd
                have e64 : a.tmps[64]?.getD undef = .slice (some q) k cap := (ev a 64).symm.trans (hD _ (Array.mem_of_getElem? (i := 0) rfl) rfl).1
                have e65 : a.tmps[65]?.getD undef = .int .i64 j := (ev a 65).symm.trans (hD _ (Array.mem_of_getElem? (i := 1) rfl) rfl).1
                clear hF hD
                have hc := hcells W hu
                go_simp
              · refine step_is _ rfl ⟨_, rfl⟩ rfl (fun _ _ => trivial) ?_
                intro a W hi hF hD
                have hu := hi.upd
                have e66 : a.tmps[66]?.getD undef = .pointer (some (q.add (j * 2))) := (ev a 66).symm.trans (hD _ (Array.mem_of_getElem? (i := 0) rfl) rfl).1
                clear hF hD
                have hc := hcells W hu
                go_simp
              · refine step_is _ rfl ⟨_, rfl⟩ rfl (fun _ _ => trivial) ?_
                intro a W hi hF hD
                have hu := hi.upd
                have e67 : a.tmps[67]?.getD undef = .pointer (some ⟨(q.add (j * 2)).block, (q.add (j * 2)).off + 1, none⟩) := (ev a 67).symm.trans (hD _ (Array.mem_of_getElem? (i := 0) rfl) rfl).1
                clear hF hD
                have hc := hcells W hu
                go_simp
              · refine step_is _ rfl ⟨_, rfl⟩ rfl (fun _ _ => trivial) ?_
                intro a W hi hF hD
                have hu := hi.upd
                have e63 : a.tmps[63]?.getD undef = .string (o ++ be 2 x.k ++ be 2 x.s.size) := (ev a 63).symm.trans (hD _ (Array.mem_of_getElem? (i := 0) rfl) rfl).1
                have e68 : a.tmps[68]?.getD undef = .string x.s := (ev a 68).symm.trans (hD _ (Array.mem_of_getElem? (i := 1) rfl) rfl).1
                clear hF hD
                have hc := hcells W hu
                have := run_string_add_sum (P := Tryz.prog) W (o ++ be 2 x.k ++ be 2 x.s.size) x.s (by simp only [be_size, maxLen, ByteArray.size_append]; omega)
                go_simp
              · refine step_is _ rfl ⟨_, rfl⟩ rfl (fun _ _ => trivial) ?_
                intro a W hi hF hD
                have hu := hi.upd
                have e69 : a.tmps[69]?.getD undef = .string (o ++ be 2 x.k ++ be 2 x.s.size ++ x.s) := (ev a 69).symm.trans (hD _ (Array.mem_of_getElem? (i := 0) rfl) rfl).1
                clear hF hD
                have hc := hcells W hu
                go_simp
            intro vals W hu hv
            have v0 : vals 0 = .string o := (hv 0 (by decide)).1
            have v1 : vals 1 = .slice (some q) k cap := (hv 1 (by decide)).1
            have v2 : vals 2 = .int .i64 j := (hv 2 (by decide)).1
            have v3 : vals 3 = .pointer (some (q.add (j * 2))) := (hv 3 (by decide)).1
            have v4 : vals 4 = .pointer (some (q.add (j * 2))) := (hv 4 (by decide)).1
            have v5 : vals 5 = .int .i64 x.k := (hv 5 (by decide)).1
            have v6 : vals 6 = .string (be 2 x.k) := (hv 6 (by decide)).1
            have v7 : vals 7 = .string (o ++ be 2 x.k) := (hv 7 (by decide)).1
            have v8 : vals 8 = .slice (some q) k cap := (hv 8 (by decide)).1
            have v9 : vals 9 = .int .i64 j := (hv 9 (by decide)).1
            have v10 : vals 10 = .pointer (some (q.add (j * 2))) := (hv 10 (by decide)).1
            have v11 : vals 11 = .pointer (some ⟨(q.add (j * 2)).block, (q.add (j * 2)).off + 1, none⟩) := (hv 11 (by decide)).1
            have v12 : vals 12 = .string x.s := (hv 12 (by decide)).1
            have v13 : vals 13 = .int .i64 x.s.size := (hv 13 (by decide)).1
            have v14 : vals 14 = .string (be 2 x.s.size) := (hv 14 (by decide)).1
            have v15 : vals 15 = .string (o ++ be 2 x.k ++ be 2 x.s.size) := (hv 15 (by decide)).1
            have v16 : vals 16 = .slice (some q) k cap := (hv 16 (by decide)).1
            have v17 : vals 17 = .int .i64 j := (hv 17 (by decide)).1
            have v18 : vals 18 = .pointer (some (q.add (j * 2))) := (hv 18 (by decide)).1
            have v19 : vals 19 = .pointer (some ⟨(q.add (j * 2)).block, (q.add (j * 2)).off + 1, none⟩) := (hv 19 (by decide)).1
            have v20 : vals 20 = .string x.s := (hv 20 (by decide)).1
            have v21 : vals 21 = .string (o ++ be 2 x.k ++ be 2 x.s.size ++ x.s) := (hv 21 (by decide)).1
            have v22 : vals 22 = .string (o ++ be 2 x.k ++ be 2 x.s.size ++ x.s) := (hv 22 (by decide)).1
            clear hv
            simp only [putAll, Act.put, Nat.zero_add, Nat.reduceAdd, v0, v1, v2, v3, v4, v5, v6, v7, v8, v9, v10, v11, v12, v13, v14, v15, v16, v17, v18, v19, v20, v21, v22, List.setIfInBounds_toArray, List.set_cons_zero, List.set_cons_succ]
            clear v0 v1 v2 v3 v4 v5 v6 v7 v8 v9 v10 v11 v12 v13 v14 v15 v16 v17 v18 v19 v20 v21 v22
            have HU3 := Lib.hid (HU.out.trans hu)
            clear hu hcells
            go_wp2_with fail
            go_roundg (k - (j + 1))
            case rel => exact ⟨j + 1, _, by omega, by go_num, rfl, HO.out, by simp only [ByteArray.size_append, be_size]; omega, HU3.out⟩
            case measure => omega
          · obtain rfl : j = k := by omega
            have HO : Hid (o = catT l) := by
              show _ = _
              rw [ho, List.take_of_length_le (by have := HN.out; omega)]
            clear ho hu
            go_wp2_with fail
            go_ret2
            rw [HE2.out, ← HO.out]
            exact ⟨rfl, HU.out⟩

theorem byte_ext (b : ByteArray) (a i : Nat) (h : a + i < b.size) : byte (b.extract a b.size) i = byte b (a + i) := by
  simp only [byte, ByteArray.data_extract]
  rw [Array.getElem?_extract]
  have : b.data.size = b.size := rfl
  rw [if_pos (by rw [this]; omega)]
theorem num_ext (b : ByteArray) (a i : Nat) : ∀ n, a + i + n ≤ b.size → num (b.extract a b.size) i n = num b (a + i) n
  | 0, _ => rfl
  | n + 1, h => by rw [num, num, num_ext b a i n (by omega), byte_ext b a (i + n) (by omega), Nat.add_assoc]
theorem ext_ext (b : ByteArray) (a c d : Nat) (h : a ≤ b.size) (hd : a + d ≤ b.size) : (b.extract a b.size).extract c d = b.extract (a + c) (a + d) := by
  apply ByteArray.ext
  simp only [ByteArray.data_extract, Array.extract_extract]
  congr 1
  have : b.data.size = b.size := rfl
  omega

set_option maxHeartbeats 4000000 in
theorem rgetTags_any (b : ByteArray) (hb : b.size ≤ 140737488355328) (w : World) :
    Calls Tryz.prog 14 #[.string b] w (GivesTgs (getTgs b) w) := by
  obtain ⟨i0, hi0, hz0, hz1, hz2⟩ := info_parts info_tag
  have HM : Hid (b.size ≤ maxLen) := by show _ ≤ _; simp only [maxLen]; omega
  go_enter Tryz.func14, Tryz.ntmps14
  go_wp2_with fail
  go_loopg [4, 5, 6] b.size (fun m s4 s5 s6 wr => ∃ (pa M : Nat) (out : List Tg) (ao : Option Addr) (cap n : Nat) (own : List Nat), pa + m = b.size ∧ b.size - pa ≤ M ∧ n = out.length ∧ s4 = .slice ao n cap ∧ s5 = .int .i64 pa ∧ n ≤ 20 ∧
    Own wr 63 2 (.slice ao n cap) n (tgCells out) own ∧ (∀ k, k ∈ own → w.heap.size ≤ k) ∧ getFrom M (b.extract pa b.size) out = getTgs b ∧ Upd [] w wr)
  case atStart => exact ⟨0, b.size, [], none, 0, 0, [], by omega, by omega, rfl, rfl, rfl, by simp, Own.nil _ _ _, by simp, by rw [getTgs, ByteArray.extract_zero_size], Upd.refl _ _⟩
  case round =>
    obtain ⟨pa, M, out, ao, cap, n, own, hMa, hMM, hn, rfl, rfl, ho, hown, hin, hg, hu⟩ := hrel
    have hes : (b.extract pa b.size).size = b.size - pa := by rw [ByteArray.size_extract]; omega
    have HU := Lib.hid hu
    have HO := Lib.hid hown
    have HIN := Lib.hid hin
    have HN := Lib.hid hn
    have HMM := Lib.hid hMM
    by_cases t0 : pa < b.size
    rotate_left
    · obtain rfl : pa = b.size := by omega
      rw [getFrom_zero _ _ _ (by rw [hes]; omega)] at hg
      have HG := Lib.hid hg
      clear hg hown hin hu hn hes hMM
      go_wp2_with fail
      go_ret2
      rw [← HG.out]
      exact ⟨_, rfl, TgsAt.of_own (own := own) (by rw [← HN.out]; exact HO.out), HU.out⟩
    rw [getFrom_step _ _ _ (by rw [hes]; omega) (by rw [hes]; omega), hes] at hg
    have hba : pa ≤ b.size := by omega
    by_cases t1 : b.size - pa < 2
    · rw [if_pos t1] at hg
      have HG := Lib.hid hg
      have t1a : ¬ (2 : Int) ≤ (b.size : Int) - pa := by omega
      have t1b : (b.size : Int) - pa < 4 := by omega
      clear hg hown hin hu hn hes hMM
      go_wp2_with fail
      go_ret2
      rw [← HG.out]
      exact ⟨_, rfl, TgsAt.nil _, HU.out⟩
    have t1a : (2 : Int) ≤ (b.size : Int) - pa := by omega
    rw [if_neg t1, num_ext b pa 0 2 (by omega), Nat.add_zero] at hg
    have HN1 : Hid (∀ W, Calls Tryz.prog 29 #[.string b, .int .i64 pa] W fun e w' => e = .returned (.int .i64 (num b pa 2)) ∧ Upd [] W w') := fun W => rnum_any b pa HM.out (by omega) W
    by_cases t2 : num b pa 2 = 0
    · rw [if_pos t2] at hg
      have HG := Lib.hid hg
      have HT2 := Lib.hid t2
      clear hg hown hin hu hn hes hMM t2
      go_wp2_with (go_at_call 29; refine (HN1.out _).mono ?_; rintro e w1 ⟨rfl, hu1⟩; rw [HT2.out]; have HU := Lib.hid (HU.out.trans hu1); have HO := Lib.hid (HO.out.upd hu1 (by simp)); clear hu1)
      go_ret2
      rw [← HG.out]
      exact ⟨_, rfl, TgsAt.of_own (own := own) (by rw [← HN.out]; exact HO.out), HU.out⟩
    rw [if_neg t2] at hg
    have t2' : (num b pa 2 == 0) = false := by simpa using t2
    by_cases t3 : b.size - pa < 4
    · rw [if_pos (.inl t3)] at hg
      have HG := Lib.hid hg
      have t1b : (b.size : Int) - pa < 4 := by omega
      clear hg hown hin hu hn hes hMM t2
      go_wp2_with (go_at_call 29; refine (HN1.out _).mono ?_; rintro e w1 ⟨rfl, hu1⟩; have HU := Lib.hid (HU.out.trans hu1); have HO := Lib.hid (HO.out.upd hu1 (by simp)); clear hu1)
      go_ret2
      rw [← HG.out]
      exact ⟨_, rfl, TgsAt.nil _, HU.out⟩
    have t3a : ¬ (b.size : Int) - pa < 4 := by omega
    rw [num_ext b pa 2 2 (by omega)] at hg
    have HN2 : Hid (∀ W, Calls Tryz.prog 29 #[.string b, .int .i64 ((pa : Int) + 2)] W fun e w' => e = .returned (.int .i64 (num b (pa + 2) 2)) ∧ Upd [] W w') := fun W => by
      rw [show (pa : Int) + 2 = ((pa + 2 : Nat) : Int) by omega]
      exact rnum_any b (pa + 2) HM.out (by omega) W
    have hjb := num_bd b (pa + 2) 2
    obtain ⟨j, hj⟩ : ∃ j : Nat, num b (pa + 2) 2 = j := Int.eq_ofNat_of_zero_le hjb.1
    rw [hj] at hg hjb
    have HJ := Lib.hid hj
    have hj2 : j < 65536 := by have := hjb.2; omega
    clear hj hjb
    by_cases t4 : (b.size : Int) - pa - 4 < j
    · rw [if_pos (.inr (by omega))] at hg
      have HG := Lib.hid hg
      clear hg hown hin hu hn hes hMM t2
      go_wp2_with (go_at_call 29; (first | ((with_reducible refine (HN1.out _).mono ?_); rintro e w1 ⟨rfl, hu1⟩) | ((with_reducible refine (HN2.out _).mono ?_); rintro e w1 ⟨rfl, hu1⟩; rw [HJ.out])); have HU := Lib.hid (HU.out.trans hu1); have HO := Lib.hid (HO.out.upd hu1 (by simp)); clear hu1)
      go_ret2
      rw [← HG.out]
      exact ⟨_, rfl, TgsAt.nil _, HU.out⟩
    rw [if_neg (by omega)] at hg
    by_cases t5 : 20 ≤ n
    · rw [if_pos (by omega)] at hg
      have HG := Lib.hid hg
      have t5' : (20 : Int) ≤ n := by omega
      clear hg hown hin hu hn hes hMM t2
      go_wp2_with (go_at_call 29; (first | ((with_reducible refine (HN1.out _).mono ?_); rintro e w1 ⟨rfl, hu1⟩) | ((with_reducible refine (HN2.out _).mono ?_); rintro e w1 ⟨rfl, hu1⟩; rw [HJ.out])); have HU := Lib.hid (HU.out.trans hu1); have HO := Lib.hid (HO.out.upd hu1 (by simp)); clear hu1)
      go_ret2
      rw [← HG.out]
      exact ⟨_, rfl, TgsAt.nil _, HU.out⟩
    rw [if_neg (by omega), Int.toNat_natCast, ext_ext b pa (4 + j) (b.size - pa) hba (by omega), ext_ext b pa 4 (4 + j) hba (by omega), show pa + (b.size - pa) = b.size by omega] at hg
    have t5' : ¬ (20 : Int) ≤ n := by omega
    obtain ⟨y, hy⟩ : ∃ y : Int, y = num b pa 2 := ⟨_, rfl⟩
    rw [← hy] at hg HN1 t2'
    obtain ⟨X, hX⟩ : ∃ X, X = b.extract (pa + 4) (pa + (4 + j)) := ⟨_, rfl⟩
    rw [← hX] at hg
    have HXE := Lib.hid hX
    have HG := Lib.hid hg
    have hjn : (j : Int) ≤ (b.size : Int) - pa - 4 := by omega
    clear hg hown hin hu hn hes hMM t2 t4 t5 hy hX t1 t3
    go_wp2_with (go_at_call 29; (first | ((with_reducible refine (HN1.out _).mono ?_); rintro e w1 ⟨rfl, hu1⟩) | ((with_reducible refine (HN2.out _).mono ?_); rintro e w1 ⟨rfl, hu1⟩; rw [HJ.out])); have HU := Lib.hid (HU.out.trans hu1); have HO := Lib.hid (HO.out.upd hu1 (by simp)); clear hu1)
    have hlt := HO.out.lt
    have HLT := Lib.hid hlt
    have hwz : w.heap.size ≤ w1.heap.size := HU.out.size
    clear hlt
    refine wp_region_facts (.grow 14 15 63 2 w1.heap.size (.slice ao n cap) n (tgCells out) own (n + 1) (tgCells out ++ [.int .i64 y, .string X])) (HO.out) [.is (.slice ao n cap), .is (.string b), .is (.int .i64 pa), .is (.int .i64 y), .is (.string b), .is (.int .i64 pa), .is (.int .i64 ((pa : Int) + 4)), .is (.int .i64 pa), .is (.int .i64 ((pa : Int) + 4)), .is (.int .i64 j), .is (.int .i64 ((pa : Int) + 4 + j)), .is (.string X), .is (.agg #[.int .i64 y, .string X]), .made (w1.heap.size) (by exact HLT.out) 1 63 #[.int .i64 y, .string X], .any, .any] (by kernel_rfl) (by kernel_rfl) (by kernel_rfl) (by kernel_rfl) ?_ ?_
    · refine Steps.cons ?_ (Steps.cons ?_ (Steps.cons ?_ (Steps.cons ?_ (Steps.cons ?_ (Steps.cons ?_ (Steps.cons ?_ (Steps.cons ?_ (Steps.cons ?_ (Steps.cons ?_ (Steps.cons ?_ (Steps.cons ?_ (Steps.cons ?_ (Steps.cons ?_ (Steps.cons ?_ (Steps.cons ?_ Steps.nil)))))))))))))))
      · refine step_is _ rfl ⟨_, rfl⟩ rfl (fun _ _ => trivial) ?_
        intro a W hi hF hD
        have hu := hi.upd
        have e4 : a.tmps[4]?.getD undef = _ := (ev a 4).symm.trans (hF 4 (by kernel_rfl))
        clear hF hD
        go_simp
      · refine step_is _ rfl ⟨_, rfl⟩ rfl (fun _ _ => trivial) ?_
        intro a W hi hF hD
        have hu := hi.upd
        have e0 : a.tmps[0]?.getD undef = _ := (ev a 0).symm.trans (hF 0 (by kernel_rfl))
        clear hF hD
        go_simp
      · refine step_is _ rfl ⟨_, rfl⟩ rfl (fun _ _ => trivial) ?_
        intro a W hi hF hD
        have hu := hi.upd
        have e5 : a.tmps[5]?.getD undef = _ := (ev a 5).symm.trans (hF 5 (by kernel_rfl))
        clear hF hD
        go_simp
      · refine step_call rfl (fun _ _ => trivial) ?_
        intro a W hi hF hD
        have hu := hi.upd
        have e47 : a.tmps[47]?.getD undef = .string b := (ev a 47).symm.trans (hD _ (Array.mem_of_getElem? (i := 0) rfl) rfl).1
        have e48 : a.tmps[48]?.getD undef = .int .i64 pa := (ev a 48).symm.trans (hD _ (Array.mem_of_getElem? (i := 1) rfl) rfl).1
        clear hF hD
        refine ⟨_, _, by (go_simp; first | done | rfl | exact ⟨rfl, rfl⟩), ?_⟩
        refine (HN1.out _).mono ?_
        rintro e w2 ⟨rfl, hu2⟩
        first | exact ⟨_, rfl, hu2, rfl⟩ | (cases hu2; exact ⟨_, rfl, Upd.refl _ _, rfl⟩)
      · refine step_is _ rfl ⟨_, rfl⟩ rfl (fun _ _ => trivial) ?_
        intro a W hi hF hD
        have hu := hi.upd
        have e0 : a.tmps[0]?.getD undef = _ := (ev a 0).symm.trans (hF 0 (by kernel_rfl))
        clear hF hD
        go_simp
      · refine step_is _ rfl ⟨_, rfl⟩ rfl (fun _ _ => trivial) ?_
        intro a W hi hF hD
        have hu := hi.upd
        have e5 : a.tmps[5]?.getD undef = _ := (ev a 5).symm.trans (hF 5 (by kernel_rfl))
        clear hF hD
        go_simp
      · refine step_is _ rfl ⟨_, rfl⟩ rfl (fun _ _ => trivial) ?_
        intro a W hi hF hD
        have hu := hi.upd
        have e51 : a.tmps[51]?.getD undef = .int .i64 pa := (ev a 51).symm.trans (hD _ (Array.mem_of_getElem? (i := 0) rfl) rfl).1
        clear hF hD
        go_simp
        exact IntWalk.i64_in _ (by omega)
      · refine step_is _ rfl ⟨_, rfl⟩ rfl (fun _ _ => trivial) ?_
        intro a W hi hF hD
        have hu := hi.upd
        have e5 : a.tmps[5]?.getD undef = _ := (ev a 5).symm.trans (hF 5 (by kernel_rfl))
        clear hF hD
        go_simp
      · refine step_is _ rfl ⟨_, rfl⟩ rfl (fun _ _ => trivial) ?_
        intro a W hi hF hD
        have hu := hi.upd
        have e53 : a.tmps[53]?.getD undef = .int .i64 pa := (ev a 53).symm.trans (hD _ (Array.mem_of_getElem? (i := 0) rfl) rfl).1
        clear hF hD
        go_simp
        exact IntWalk.i64_in _ (by omega)
      · refine step_is _ rfl ⟨_, rfl⟩ rfl (fun _ _ => trivial) ?_
        intro a W hi hF hD
        have hu := hi.upd
        have e6 : a.tmps[6]?.getD undef = _ := (ev a 6).symm.trans (hF 6 (by kernel_rfl))
        clear hF hD
        go_simp
      · refine step_is _ rfl ⟨_, rfl⟩ rfl (fun _ _ => trivial) ?_
        intro a W hi hF hD
        have hu := hi.upd
        have e54 : a.tmps[54]?.getD undef = .int .i64 ((pa : Int) + 4) := (ev a 54).symm.trans (hD _ (Array.mem_of_getElem? (i := 0) rfl) rfl).1
        have e55 : a.tmps[55]?.getD undef = .int .i64 j := (ev a 55).symm.trans (hD _ (Array.mem_of_getElem? (i := 1) rfl) rfl).1
        clear hF hD
        go_simp
        exact IntWalk.i64_in _ (by omega)
      · refine step_is _ rfl ⟨_, rfl⟩ rfl (fun _ _ => trivial) ?_
        intro a W hi hF hD
        have hu := hi.upd
        have e50 : a.tmps[50]?.getD undef = .string b := (ev a 50).symm.trans (hD _ (Array.mem_of_getElem? (i := 0) rfl) rfl).1
        have e52 : a.tmps[52]?.getD undef = .int .i64 ((pa : Int) + 4) := (ev a 52).symm.trans (hD _ (Array.mem_of_getElem? (i := 1) rfl) rfl).1
        have e56 : a.tmps[56]?.getD undef = .int .i64 ((pa : Int) + 4 + j) := (ev a 56).symm.trans (hD _ (Array.mem_of_getElem? (i := 2) rfl) rfl).1
        clear hF hD
        rw [HXE.out]
        go_simp
        rw [if_pos (by omega), if_pos (by omega), show ((pa : Int) + 4).toNat = pa + 4 by omega, show ((pa : Int) + 4 + j).toNat = pa + (4 + j) by omega]
      · refine step_is _ rfl ⟨_, rfl⟩ rfl (fun _ _ => trivial) ?_
        intro a W hi hF hD
        have hu := hi.upd
        have e49 : a.tmps[49]?.getD undef = .int .i64 y := (ev a 49).symm.trans (hD _ (Array.mem_of_getElem? (i := 0) rfl) rfl).1
        have e57 : a.tmps[57]?.getD undef = .string X := (ev a 57).symm.trans (hD _ (Array.mem_of_getElem? (i := 1) rfl) rfl).1
        clear hF hD
        go_simp
      · refine step_run rfl (fun _ _ => trivial) ?_
        intro a W hi hF hD
        have hu := hi.upd
        have e58 : a.tmps[58]?.getD undef = .agg #[.int .i64 y, .string X] := (ev a 58).symm.trans (hD _ (Array.mem_of_getElem? (i := 0) rfl) rfl).1
        clear hF hD
        exact ⟨_, _, by (go_simp; first | done | rfl | exact ⟨rfl, rfl⟩), (Upd.refl _ _).alloc _, _, hu.size, rfl, Blk.new _ _ _⟩
      · refine step_gen rfl ⟨_, rfl⟩ ?_
        intro a W hi hF hD
        have hu := hi.upd
        have e46 : a.tmps[46]?.getD undef = .slice ao n cap := (ev a 46).symm.trans (hD _ (Array.mem_of_getElem? (i := 0) rfl) rfl).1
        obtain ⟨g59, _, e59, b59⟩ : ∃ g, w1.heap.size ≤ g ∧ a.eval (.tmp 59) = .slice (some ⟨g, 0, none⟩) 1 1 ∧ Blk W g 63 #[.int .i64 y, .string X] := (hD _ (Array.mem_of_getElem? (i := 1) rfl) rfl).1
        rw [ev] at e59
        clear hF hD
        obtain ⟨g, off, cap2, w2, own2, r1, r2, r3, r4, r5⟩ := run_append_keep (P := Tryz.prog) W 24 24 63 i0 _ 2 24 Tryz.underlying24 hi0 hz0 hz1 hz2 rfl (by decide) (.slice ao n cap) n (tgCells out) own hi.hold ⟨g59, 0, none⟩ 1 1 [.int .i64 y, .string X] rfl (World.news_of_block b59) (by simp [Value.oneCell']) (by decide) (by simp only [maxLen]; omega) (by omega)
        exact ⟨_, w2, exec_append rfl (by rw [ev]; exact e46) (by rw [ev]; exact e59) r1, Env.grow_set hu r4 r5 ⟨g, off, cap2, own2, rfl, r2, fun k hk => (r3 k hk).imp id (Nat.le_trans hu.size)⟩⟩
      · refine step_gen rfl ⟨_, rfl⟩ ?_
        intro a W hi hF hD
        have hu := hi.upd
        have d60 := (hD _ (Array.mem_of_getElem? (i := 0) rfl) rfl).2
        clear hF hD
        exact ⟨_, W, by (go_simp; first | done | rfl | exact ⟨rfl, rfl⟩), Env.grow_on hi (by rw [← ev]; exact d60)⟩
    intro vals W hu hv
    have v0 : vals 0 = .slice ao n cap := (hv 0 (by decide)).1
    have v1 : vals 1 = .string b := (hv 1 (by decide)).1
    have v2 : vals 2 = .int .i64 pa := (hv 2 (by decide)).1
    have v3 : vals 3 = .int .i64 y := (hv 3 (by decide)).1
    have v4 : vals 4 = .string b := (hv 4 (by decide)).1
    have v5 : vals 5 = .int .i64 pa := (hv 5 (by decide)).1
    have v6 : vals 6 = .int .i64 ((pa : Int) + 4) := (hv 6 (by decide)).1
    have v7 : vals 7 = .int .i64 pa := (hv 7 (by decide)).1
    have v8 : vals 8 = .int .i64 ((pa : Int) + 4) := (hv 8 (by decide)).1
    have v9 : vals 9 = .int .i64 j := (hv 9 (by decide)).1
    have v10 : vals 10 = .int .i64 ((pa : Int) + 4 + j) := (hv 10 (by decide)).1
    have v11 : vals 11 = .string X := (hv 11 (by decide)).1
    have v12 : vals 12 = .agg #[.int .i64 y, .string X] := (hv 12 (by decide)).1
    obtain ⟨g13, _, v13, b13⟩ : ∃ g, w1.heap.size ≤ g ∧ vals 13 = .slice (some ⟨g, 0, none⟩) 1 1 ∧ Blk W g 63 #[.int .i64 y, .string X] := (hv 13 (by decide)).1
    have v14 := (hv 14 (by decide)).2
    have v15 := (hv 15 (by decide)).2
    clear hv
    obtain ⟨g, off, cap2, own2, q15, ho2, hin2⟩ := Env.grow_get 15 rfl v15
    simp only [putAll, Act.put, Nat.zero_add, Nat.reduceAdd, q15, v0, v1, v2, v3, v4, v5, v6, v7, v8, v9, v10, v11, v12, v13, List.setIfInBounds_toArray, List.set_cons_zero, List.set_cons_succ]
    clear v0 v1 v2 v3 v4 v5 v6 v7 v8 v9 v10 v11 v12 v13
    rw [q15] at ho2
    have HO2 := Lib.hid ho2
    have HIN2 := Lib.hid hin2
    have HU2 := Lib.hid (show Upd own w1 W from hu)
    clear ho2 hin2 hu v14 v15 q15
    go_wp2_with fail
    go_roundg (b.size - (pa + (4 + j)))
    case rel =>
      have hin3 : ∀ k ∈ own2, w.heap.size ≤ k := fun k hk => by
        rcases HIN2.out k hk with h | h
        · exact HIN.out k h
        · omega
      refine ⟨pa + (4 + j), M - 1, out ++ [⟨y, X⟩], _, cap2, n + 1, own2, by omega, by have := HMM.out; omega, by rw [List.length_append, ← HN.out]; rfl, rfl, ?_, by omega, ?_, hin3, HG.out, ?_⟩
      · congr 1; omega
      · rw [tgCells_snoc]; exact HO2.out
      · exact HU.out.trans' HU2.out (fun x hx => .inr (HIN.out x hx))
    case measure => omega
theorem getFrom_len : ∀ (M : Nat) (b : ByteArray) (out : List Tg), out.length ≤ 20 → (getFrom M b out).1.length ≤ 20
  | 0, _, _, h => h
  | M + 1, b, out, h => by
    rw [getFrom]
    split
    · exact h
    · split
      · simp
      · split
        · exact h
        · split
          · simp
          · split
            · simp
            · exact getFrom_len M _ _ (by simp; omega)
theorem getTgs_len (b : ByteArray) : (getTgs b).1.length ≤ 20 := getFrom_len _ _ _ (by simp)
end Go.Proofs.YtomnnnjahpoggaaGreat
