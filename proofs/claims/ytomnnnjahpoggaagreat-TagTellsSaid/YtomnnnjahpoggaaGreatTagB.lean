/- The walks of tag.in, tag.two, tag.num, tag.Put, tag.Get. -/
import Derived.Test.YtomnnnjahpoggaaGreatWire
import Derived.Test.YtomnnnjahpoggaaGreatFacts
import Derived.Test.YtomnnnjahpoggaaGreatStr
import Derived.Test.YtomnnnjahpoggaaGreatTagA
namespace Go.Proofs.YtomnnnjahpoggaaGreat
open Go.RowKit
set_option maxRecDepth 100000

set_option maxHeartbeats 400000 in
theorem tagIn_any (n a b : Int) (w : World) :
    Calls Tryz.prog 23 #[.int .i64 n, .int .i64 a, .int .i64 b] w fun e w' => e = .returned (.bool (decide (a ≤ n) && decide (n ≤ b))) ∧ w = w' := by
  go_enter Tryz.func23, Tryz.ntmps23
  go_wp2
  all_goals
    go_ret
    refine ⟨?_, rfl⟩
    simp_all
    try omega

set_option maxHeartbeats 400000 in
theorem tagTwo_ok (v : Int) (hv : 0 ≤ v ∧ v < 65536) (w : World) :
    Calls Tryz.prog 24 #[.int .i64 v] w fun e w' => e = .returned (.string (be 2 v)) ∧ Upd [] w w' := by
  have HV := Lib.hid hv
  clear hv
  go_enter Tryz.func24, Tryz.ntmps24
  go_wp2_with fail
  refine (wirePut_ok v 2 (by omega) (by simpa using HV.out) _).mono ?_
  rintro e w' ⟨rfl, hu⟩
  go_wp2
  go_ret
  exact ⟨rfl, hu⟩

set_option maxHeartbeats 400000 in
theorem tagNum_ok (s : ByteArray) (i : Nat) (hs : s.size ≤ maxLen) (hv : i + 2 ≤ s.size) (w : World) :
    Calls Tryz.prog 27 #[.string s, .int .i64 i] w fun e w' => e = .returned (.int .i64 (num s i 2)) ∧ w = w' := by
  have HV := Lib.hid (And.intro hs hv)
  clear hs hv
  go_enter Tryz.func27, Tryz.ntmps27
  go_wp2_with fail
  refine (wireGet_ok s i 2 (by omega) HV.out.1 HV.out.2 _).mono ?_
  rintro e w' ⟨rfl, rfl⟩
  go_wp2
  go_ret
  exact ⟨rfl, rfl⟩

/-- string([]byte of two bytes), the two lying in a block that is known. -/
theorem two_str' {P : Program} {src e dst : TypeId} (hs : P.underlying src = some (.slice e)) (he : P.underlying e = some (.int .u8)) (hd : P.underlying dst = some .string) {v : World} {g : Nat} {x y : Int} (hb : Blk v g e #[.int .u8 x, .int .u8 y]) :
    (convert src dst (.slice (some ⟨g, 0, none⟩) 2 2)).run P v = .ok (.string (strOfNums [x, y])) v :=
  run_convert_bytes_arg _ src e hs he g 0 2 2 [x, y] rfl (fun i hi => by
    rw [Nat.zero_add, hb.cell]
    have : i = 0 ∨ i = 1 := by omega
    rcases this with rfl | rfl <;> rfl) dst hd
theorem two_str {P : Program} {src e dst : TypeId} (hs : P.underlying src = some (.slice e)) (he : P.underlying e = some (.int .u8)) (hd : P.underlying dst = some .string) (v : World) (x y : Int) :
    (convert src dst (.slice (some ⟨v.heap.size, 0, none⟩) 2 2)).run P (v.alloc (.cells #[.int .u8 x, .int .u8 y] e)).drew = .ok (.string (strOfNums [x, y])) (v.alloc (.cells #[.int .u8 x, .int .u8 y] e)).drew :=
  two_str' hs he hd (Blk.new v e _).drew
theorem Upd.held {w w' : World} (hu : Upd [] w w') {p : Addr} {v : Value} (h : w.cell? p = some v) : w'.cell? p = some v := (hu.cell (cell_lt h) (by simp)).trans h

/-- A packet: code, session, data. -/
structure Dc where
  code : Int
  sess : Int
  data : ByteArray
deriving DecidableEq
def Dc.val (d : Dc) : Value := .agg #[.int .i64 d.code, .int .i64 d.sess, .string d.data]
def Dc.bytes (d : Dc) : ByteArray := strOfNums [17, IntKind.u8.wrap d.code] ++ be 2 d.sess ++ be 2 d.data.size ++ d.data
def Dc.put (d : Dc) : ByteArray × Int :=
  if ¬ (0 ≤ d.code ∧ d.code ≤ 255) ∨ ¬ (0 ≤ d.sess ∧ d.sess ≤ 65535) then (⟨#[]⟩, 1) else if 1494 < d.data.size then (⟨#[]⟩, 2) else (d.bytes, 0)

set_option maxHeartbeats 2000000 in
theorem put_any (d : Dc) (hd : d.data.size ≤ maxLen) (w : World) :
    Calls Tryz.prog 6 #[d.val] w fun e w' => e = .returned (.tuple #[.string d.put.1, .int .i64 d.put.2]) ∧ Upd [] w w' := by
  obtain ⟨c, s, b⟩ := d
  simp only [Dc.val, Dc.put]
  simp only [maxLen] at hd
  by_cases t1 : 0 ≤ c ∧ c ≤ 255
  rotate_left
  · have H1 : Hid ((if ¬ (0 ≤ c ∧ c ≤ 255) ∨ ¬ (0 ≤ s ∧ s ≤ 65535) then ((⟨#[]⟩, 1) : ByteArray × Int) else if 1494 < b.size then (⟨#[]⟩, 2) else (Dc.bytes ⟨c, s, b⟩, 0)) = (⟨#[]⟩, 1)) := if_pos (.inl t1)
    rw [H1.out]
    have t2 : (decide (0 ≤ c) && decide (c ≤ 255)) = false := by simpa using fun h => by omega
    go_enter Tryz.func6, Tryz.ntmps6
    go_wp2_with (go_at_call 23; refine (tagIn_any _ _ _ _).mono ?_; rintro e w' ⟨rfl, rfl⟩)
    go_ret2
    exact ⟨rfl, (Upd.refl _ _).alloc _⟩
  by_cases t2 : 0 ≤ s ∧ s ≤ 65535
  rotate_left
  · have H1 : Hid ((if ¬ (0 ≤ c ∧ c ≤ 255) ∨ ¬ (0 ≤ s ∧ s ≤ 65535) then ((⟨#[]⟩, 1) : ByteArray × Int) else if 1494 < b.size then (⟨#[]⟩, 2) else (Dc.bytes ⟨c, s, b⟩, 0)) = (⟨#[]⟩, 1)) := if_pos (.inr t2)
    rw [H1.out]
    have t3 : (decide (0 ≤ c) && decide (c ≤ 255)) = true := by simpa using t1
    have t4 : (decide (0 ≤ s) && decide (s ≤ 65535)) = false := by simpa using fun h => by omega
    go_enter Tryz.func6, Tryz.ntmps6
    go_wp2_with (go_at_call 23; refine (tagIn_any _ _ _ _).mono ?_; rintro e w' ⟨rfl, rfl⟩)
    go_ret2
    exact ⟨rfl, (Upd.refl _ _).alloc _⟩
  have t3 : (decide (0 ≤ c) && decide (c ≤ 255)) = true := by simpa using t1
  have t4 : (decide (0 ≤ s) && decide (s ≤ 65535)) = true := by simpa using t2
  by_cases t5 : 1494 < b.size
  · have H1 : Hid ((if ¬ (0 ≤ c ∧ c ≤ 255) ∨ ¬ (0 ≤ s ∧ s ≤ 65535) then ((⟨#[]⟩, 1) : ByteArray × Int) else if 1494 < b.size then (⟨#[]⟩, 2) else (Dc.bytes ⟨c, s, b⟩, 0)) = (⟨#[]⟩, 2)) := by
      show _ = _
      rw [if_neg (by omega), if_pos t5]
    rw [H1.out]
    go_enter Tryz.func6, Tryz.ntmps6
    go_wp2_with (go_at_call 23; refine (tagIn_any _ _ _ _).mono ?_; rintro e w' ⟨rfl, rfl⟩)
    go_ret2
    exact ⟨rfl, (Upd.refl _ _).alloc _⟩
  have H1 : Hid ((if ¬ (0 ≤ c ∧ c ≤ 255) ∨ ¬ (0 ≤ s ∧ s ≤ 65535) then ((⟨#[]⟩, 1) : ByteArray × Int) else if 1494 < b.size then (⟨#[]⟩, 2) else (Dc.bytes ⟨c, s, b⟩, 0)) = (Dc.bytes ⟨c, s, b⟩, 0)) := by
    show _ = _
    rw [if_neg (by omega), if_neg t5]
  rw [H1.out]
  go_enter Tryz.func6, Tryz.ntmps6
  go_wp2_with (go_at_call 23; refine (tagIn_any _ _ _ _).mono ?_; rintro e w' ⟨rfl, rfl⟩)
  obtain ⟨A, hA⟩ : ∃ A, A = Obj.cells #[Value.int IntKind.i64 c, Value.int IntKind.i64 s, Value.string b] 23 := ⟨_, rfl⟩
  have A0 : Blk (w.alloc A) w.heap.size 23 #[Value.int IntKind.i64 c, Value.int IntKind.i64 s, Value.string b] := by rw [hA]; exact Blk.new _ _ _
  have U0 : Upd [] w (w.alloc A) := (Upd.refl [] w).alloc A
  rw [← hA]
  clear hA
  generalize w.alloc A = w1 at *
  have hcells : ∀ W, Upd [] w1 W → W.cell? ⟨w.heap.size, 0, none⟩ = some (.int .i64 c) ∧ W.cell? ⟨w.heap.size, 1, none⟩ = some (.int .i64 s) ∧ W.cell? ⟨w.heap.size, 2, none⟩ = some (.string b) := fun W hu =>
    ⟨(A0.upd hu (by simp)).cell 0, (A0.upd hu (by simp)).cell 1, (A0.upd hu (by simp)).cell 2⟩
  refine wp_region_facts (.pure) (trivial) [.is (.pointer (some ⟨w.heap.size, 0, none⟩)), .is (.int .i64 c), .is (.int .u8 (IntKind.u8.wrap c)), .made (0) (by simp [Env.pure]) 2 5 #[.int .u8 17, .int .u8 (IntKind.u8.wrap c)], .is (.string (strOfNums [17, IntKind.u8.wrap c])), .is (.pointer (some ⟨w.heap.size, 1, none⟩)), .is (.int .i64 s), .is (.string (be 2 s)), .is (.string (strOfNums [17, IntKind.u8.wrap c] ++ be 2 s)), .is (.pointer (some ⟨w.heap.size, 2, none⟩)), .is (.string b), .is (.int .i64 b.size), .is (.string (be 2 b.size)), .is (.string (strOfNums [17, IntKind.u8.wrap c] ++ be 2 s ++ be 2 b.size)), .is (.pointer (some ⟨w.heap.size, 2, none⟩)), .is (.string b), .is (.string (Dc.bytes ⟨c, s, b⟩)), .is (.string (Dc.bytes ⟨c, s, b⟩)), .is (.int .i64 0)] (by kernel_rfl) (by kernel_rfl) (by kernel_rfl) (by kernel_rfl) ?_ ?_
  · refine Steps.cons ?_ (Steps.cons ?_ (Steps.cons ?_ (Steps.cons ?_ (Steps.cons ?_ (Steps.cons ?_ (Steps.cons ?_ (Steps.cons ?_ (Steps.cons ?_ (Steps.cons ?_ (Steps.cons ?_ (Steps.cons ?_ (Steps.cons ?_ (Steps.cons ?_ (Steps.cons ?_ (Steps.cons ?_ (Steps.cons ?_ (Steps.cons ?_ (Steps.cons ?_ Steps.nil))))))))))))))))))
    · refine step_is _ rfl ⟨_, rfl⟩ rfl (fun _ _ => trivial) ?_
      intro a W hi hF hD
      have hu := hi.upd
      have e1 : a.tmps[1]?.getD undef = _ := (ev a 1).symm.trans (hF 1 (by kernel_rfl))
      clear hF hD
      have hc := hcells W hu
      go_simp
    · refine step_is _ rfl ⟨_, rfl⟩ rfl (fun _ _ => trivial) ?_
      intro a W hi hF hD
      have hu := hi.upd
      have e20 : a.tmps[20]?.getD undef = .pointer (some ⟨w.heap.size, 0, none⟩) := (ev a 20).symm.trans (hD _ (Array.mem_of_getElem? (i := 0) rfl) rfl).1
      clear hF hD
      have hc := hcells W hu
      go_simp
    · refine step_is _ rfl ⟨_, rfl⟩ rfl (fun _ _ => trivial) ?_
      intro a W hi hF hD
      have hu := hi.upd
      have e21 : a.tmps[21]?.getD undef = .int .i64 c := (ev a 21).symm.trans (hD _ (Array.mem_of_getElem? (i := 0) rfl) rfl).1
      clear hF hD
      have hc := hcells W hu
      go_simp
    · refine step_run rfl (fun _ _ => trivial) ?_
      intro a W hi hF hD
      have hu := hi.upd
      have e22 : a.tmps[22]?.getD undef = .int .u8 (IntKind.u8.wrap c) := (ev a 22).symm.trans (hD _ (Array.mem_of_getElem? (i := 0) rfl) rfl).1
      clear hF hD
      have hc := hcells W hu
      exact ⟨_, _, by (go_simp; first | done | rfl | exact ⟨rfl, rfl⟩), (Upd.refl _ _).alloc _, _, Nat.zero_le _, rfl, Blk.new _ _ _⟩
    · refine step_is _ rfl ⟨_, rfl⟩ rfl (fun _ _ => trivial) ?_
      intro a W hi hF hD
      have hu := hi.upd
      obtain ⟨g23, _, e23, b23⟩ : ∃ g, 0 ≤ g ∧ a.eval (.tmp 23) = .slice (some ⟨g, 0, none⟩) 2 2 ∧ Blk W g 5 #[.int .u8 17, .int .u8 (IntKind.u8.wrap c)] := (hD _ (Array.mem_of_getElem? (i := 0) rfl) rfl).1
      rw [ev] at e23
      clear hF hD
      have hc := hcells W hu
      have hcv := two_str' Tryz.underlying65 Tryz.underlying5 Tryz.underlying9 b23
      go_simp
    · refine step_is _ rfl ⟨_, rfl⟩ rfl (fun _ _ => trivial) ?_
      intro a W hi hF hD
      have hu := hi.upd
      have e1 : a.tmps[1]?.getD undef = _ := (ev a 1).symm.trans (hF 1 (by kernel_rfl))
      clear hF hD
      have hc := hcells W hu
      go_simp
    · refine step_is _ rfl ⟨_, rfl⟩ rfl (fun _ _ => trivial) ?_
      intro a W hi hF hD
      have hu := hi.upd
      have e25 : a.tmps[25]?.getD undef = .pointer (some ⟨w.heap.size, 1, none⟩) := (ev a 25).symm.trans (hD _ (Array.mem_of_getElem? (i := 0) rfl) rfl).1
      clear hF hD
      have hc := hcells W hu
      go_simp
    · refine step_call rfl (fun _ _ => trivial) ?_
      intro a W hi hF hD
      have hu := hi.upd
      have e26 : a.tmps[26]?.getD undef = .int .i64 s := (ev a 26).symm.trans (hD _ (Array.mem_of_getElem? (i := 0) rfl) rfl).1
      clear hF hD
      have hc := hcells W hu
      refine ⟨_, _, by (go_simp; first | done | rfl | exact ⟨rfl, rfl⟩), ?_⟩
      refine (tagTwo_ok s (by omega) _).mono ?_
      rintro e w2 ⟨rfl, hu2⟩
      first | exact ⟨_, rfl, hu2, rfl⟩ | (cases hu2; exact ⟨_, rfl, Upd.refl _ _, rfl⟩)
    · refine step_is _ rfl ⟨_, rfl⟩ rfl (fun _ _ => trivial) ?_
      intro a W hi hF hD
      have hu := hi.upd
      have e24 : a.tmps[24]?.getD undef = .string (strOfNums [17, IntKind.u8.wrap c]) := (ev a 24).symm.trans (hD _ (Array.mem_of_getElem? (i := 0) rfl) rfl).1
      have e27 : a.tmps[27]?.getD undef = .string (be 2 s) := (ev a 27).symm.trans (hD _ (Array.mem_of_getElem? (i := 1) rfl) rfl).1
      clear hF hD
      have hc := hcells W hu
      have := run_string_add_sum (P := Tryz.prog) W (strOfNums [17, IntKind.u8.wrap c]) (be 2 s) (by rw [strOfNums_size, be_size]; simp)
      go_simp
    · refine step_is _ rfl ⟨_, rfl⟩ rfl (fun _ _ => trivial) ?_
      intro a W hi hF hD
      have hu := hi.upd
      have e1 : a.tmps[1]?.getD undef = _ := (ev a 1).symm.trans (hF 1 (by kernel_rfl))
      clear hF hD
      have hc := hcells W hu
      go_simp
    · refine step_is _ rfl ⟨_, rfl⟩ rfl (fun _ _ => trivial) ?_
      intro a W hi hF hD
      have hu := hi.upd
      have e29 : a.tmps[29]?.getD undef = .pointer (some ⟨w.heap.size, 2, none⟩) := (ev a 29).symm.trans (hD _ (Array.mem_of_getElem? (i := 0) rfl) rfl).1
      clear hF hD
      have hc := hcells W hu
      go_simp
    · refine step_is _ rfl ⟨_, rfl⟩ rfl (fun _ _ => trivial) ?_
      intro a W hi hF hD
      have hu := hi.upd
      have e30 : a.tmps[30]?.getD undef = .string b := (ev a 30).symm.trans (hD _ (Array.mem_of_getElem? (i := 0) rfl) rfl).1
      clear hF hD
      have hc := hcells W hu
      go_simp
    · refine step_call rfl (fun _ _ => trivial) ?_
      intro a W hi hF hD
      have hu := hi.upd
      have e31 : a.tmps[31]?.getD undef = .int .i64 b.size := (ev a 31).symm.trans (hD _ (Array.mem_of_getElem? (i := 0) rfl) rfl).1
      clear hF hD
      have hc := hcells W hu
      refine ⟨_, _, by (go_simp; first | done | rfl | exact ⟨rfl, rfl⟩), ?_⟩
      refine (tagTwo_ok b.size (by omega) _).mono ?_
      rintro e w2 ⟨rfl, hu2⟩
      first | exact ⟨_, rfl, hu2, rfl⟩ | (cases hu2; exact ⟨_, rfl, Upd.refl _ _, rfl⟩)
    · refine step_is _ rfl ⟨_, rfl⟩ rfl (fun _ _ => trivial) ?_
      intro a W hi hF hD
      have hu := hi.upd
      have e28 : a.tmps[28]?.getD undef = .string (strOfNums [17, IntKind.u8.wrap c] ++ be 2 s) := (ev a 28).symm.trans (hD _ (Array.mem_of_getElem? (i := 0) rfl) rfl).1
      have e32 : a.tmps[32]?.getD undef = .string (be 2 b.size) := (ev a 32).symm.trans (hD _ (Array.mem_of_getElem? (i := 1) rfl) rfl).1
      clear hF hD
      have hc := hcells W hu
      have := run_string_add_sum (P := Tryz.prog) W (strOfNums [17, IntKind.u8.wrap c] ++ be 2 s) (be 2 b.size) (by rw [ByteArray.size_append, strOfNums_size, be_size, be_size]; simp)
      go_simp
    · refine step_is _ rfl ⟨_, rfl⟩ rfl (fun _ _ => trivial) ?_
      intro a W hi hF hD
      have hu := hi.upd
      have e1 : a.tmps[1]?.getD undef = _ := (ev a 1).symm.trans (hF 1 (by kernel_rfl))
      clear hF hD
      have hc := hcells W hu
      go_simp
    · refine step_is _ rfl ⟨_, rfl⟩ rfl (fun _ _ => trivial) ?_
      intro a W hi hF hD
      have hu := hi.upd
      have e34 : a.tmps[34]?.getD undef = .pointer (some ⟨w.heap.size, 2, none⟩) := (ev a 34).symm.trans (hD _ (Array.mem_of_getElem? (i := 0) rfl) rfl).1
      clear hF hD
      have hc := hcells W hu
      go_simp
    · refine step_is _ rfl ⟨_, rfl⟩ rfl (fun _ _ => trivial) ?_
      intro a W hi hF hD
      have hu := hi.upd
      have e33 : a.tmps[33]?.getD undef = .string (strOfNums [17, IntKind.u8.wrap c] ++ be 2 s ++ be 2 b.size) := (ev a 33).symm.trans (hD _ (Array.mem_of_getElem? (i := 0) rfl) rfl).1
      have e35 : a.tmps[35]?.getD undef = .string b := (ev a 35).symm.trans (hD _ (Array.mem_of_getElem? (i := 1) rfl) rfl).1
      clear hF hD
      have hc := hcells W hu
      have := run_string_add_sum (P := Tryz.prog) W (strOfNums [17, IntKind.u8.wrap c] ++ be 2 s ++ be 2 b.size) b (by rw [ByteArray.size_append, ByteArray.size_append, strOfNums_size, be_size, be_size]; simp; omega)
      go_simp
      rfl
    · refine step_is _ rfl ⟨_, rfl⟩ rfl (fun _ _ => trivial) ?_
      intro a W hi hF hD
      have hu := hi.upd
      have e36 : a.tmps[36]?.getD undef = .string (Dc.bytes ⟨c, s, b⟩) := (ev a 36).symm.trans (hD _ (Array.mem_of_getElem? (i := 0) rfl) rfl).1
      clear hF hD
      have hc := hcells W hu
      go_simp
    · refine step_is _ rfl ⟨_, rfl⟩ rfl (fun _ _ => trivial) ?_
      intro a W hi hF hD
      have hu := hi.upd
      clear hF hD
      have hc := hcells W hu
      go_simp
  intro vals W hu hv
  have v0 : vals 0 = .pointer (some ⟨w.heap.size, 0, none⟩) := (hv 0 (by decide)).1
  have v1 : vals 1 = .int .i64 c := (hv 1 (by decide)).1
  have v2 : vals 2 = .int .u8 (IntKind.u8.wrap c) := (hv 2 (by decide)).1
  obtain ⟨g3, _, v3, b3⟩ : ∃ g, 0 ≤ g ∧ vals 3 = .slice (some ⟨g, 0, none⟩) 2 2 ∧ Blk W g 5 #[.int .u8 17, .int .u8 (IntKind.u8.wrap c)] := (hv 3 (by decide)).1
  have v4 : vals 4 = .string (strOfNums [17, IntKind.u8.wrap c]) := (hv 4 (by decide)).1
  have v5 : vals 5 = .pointer (some ⟨w.heap.size, 1, none⟩) := (hv 5 (by decide)).1
  have v6 : vals 6 = .int .i64 s := (hv 6 (by decide)).1
  have v7 : vals 7 = .string (be 2 s) := (hv 7 (by decide)).1
  have v8 : vals 8 = .string (strOfNums [17, IntKind.u8.wrap c] ++ be 2 s) := (hv 8 (by decide)).1
  have v9 : vals 9 = .pointer (some ⟨w.heap.size, 2, none⟩) := (hv 9 (by decide)).1
  have v10 : vals 10 = .string b := (hv 10 (by decide)).1
  have v11 : vals 11 = .int .i64 b.size := (hv 11 (by decide)).1
  have v12 : vals 12 = .string (be 2 b.size) := (hv 12 (by decide)).1
  have v13 : vals 13 = .string (strOfNums [17, IntKind.u8.wrap c] ++ be 2 s ++ be 2 b.size) := (hv 13 (by decide)).1
  have v14 : vals 14 = .pointer (some ⟨w.heap.size, 2, none⟩) := (hv 14 (by decide)).1
  have v15 : vals 15 = .string b := (hv 15 (by decide)).1
  have v16 : vals 16 = .string (Dc.bytes ⟨c, s, b⟩) := (hv 16 (by decide)).1
  have v17 : vals 17 = .string (Dc.bytes ⟨c, s, b⟩) := (hv 17 (by decide)).1
  have v18 : vals 18 = .int .i64 0 := (hv 18 (by decide)).1
  clear hv
  simp only [putAll, Act.put, Nat.zero_add, Nat.reduceAdd, v0, v1, v2, v3, v4, v5, v6, v7, v8, v9, v10, v11, v12, v13, v14, v15, v16, v17, v18, List.setIfInBounds_toArray, List.set_cons_zero, List.set_cons_succ]
  clear v0 v1 v2 v3 v4 v5 v6 v7 v8 v9 v10 v11 v12 v13 v14 v15 v16 v17 v18
  go_wp2
  go_ret2
  exact ⟨rfl, U0.trans hu⟩
end Go.Proofs.YtomnnnjahpoggaaGreat
