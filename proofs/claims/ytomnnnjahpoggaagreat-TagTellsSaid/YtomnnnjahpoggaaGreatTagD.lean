/- The walk of tag.PutTags. -/
import Derived.Test.YtomnnnjahpoggaaGreatTagC
namespace Go.Proofs.YtomnnnjahpoggaaGreat
open Go.RowKit
set_option maxRecDepth 100000
set_option linter.unusedSimpArgs false

def Tg.bytes (t : Tg) : ByteArray := be 2 t.k ++ be 2 t.s.size ++ t.s
def putFrom : List Tg → ByteArray → ByteArray × Int
  | [], out => (out, 0)
  | t :: l, out => if 1494 < t.s.size ∨ 1494 < out.size + t.s.size + 4 then (⟨#[]⟩, 2) else putFrom l (out ++ t.bytes)
def putTgs (l : List Tg) : ByteArray × Int :=
  if 20 < l.length then (⟨#[]⟩, 2) else if l.any Tg.wrong = true then (⟨#[]⟩, 1) else putFrom l ⟨#[]⟩
theorem Tg.bytes_size (t : Tg) : t.bytes.size = 4 + t.s.size := by simp [Tg.bytes, ByteArray.size_append, be_size]

set_option maxHeartbeats 2000000 in
theorem putTags_any (l : List Tg) (v : Value) (w : World) (hl : TgsAt w v l) (hs : ∀ t ∈ l, t.s.size ≤ 140737488355328) :
    Calls Tryz.prog 11 #[v] w fun e w' => e = .returned (.tuple #[.string (putTgs l).1, .int .i64 (putTgs l).2]) ∧ Upd [] w w' := by
  obtain ⟨ao, cap, rfl, h1, h2, h3⟩ := id hl
  obtain ⟨n, hn⟩ : ∃ n, n = l.length := ⟨_, rfl⟩
  have HQ : Hid (putTgs l = (if 20 < n then (⟨#[]⟩, 2) else if l.any Tg.wrong = true then (⟨#[]⟩, 1) else putFrom l ⟨#[]⟩)) := by show _ = _; rw [hn]; rfl
  rw [HQ.out]
  rw [← hn] at h1
  rw [← hn]
  have HL := Lib.hid hl
  have HN := Lib.hid hn
  have HS := Lib.hid hs
  simp only [maxLen] at h2
  clear h3 hl hn hs HQ
  by_cases t1 : 20 < n
  · rw [if_pos t1]
    go_enter Tryz.func11, Tryz.ntmps11
    go_wp2_with fail
    go_ret2
    exact ⟨rfl, Upd.refl _ _⟩
  rw [if_neg t1]
  have t1' : ¬ (20 : Int) < n := by omega
  by_cases t2 : l.any Tg.wrong = true
  · rw [if_pos t2]
    have T2 := Lib.hid t2
    clear t2
    go_enter Tryz.func11, Tryz.ntmps11
    go_wp2_with fail
    refine (containsFunc_any 31 Tg.wrong l _ _ (by rw [HN.out]; exact HL.out) (fun _ _ => by kernel_rfl) (fun t _ W => putTags1_any t W)).mono ?_
    rintro e w' ⟨rfl, hu⟩
    rw [T2.out]
    go_wp2
    go_ret2
    exact ⟨rfl, hu⟩
  rw [if_neg t2]
  have HW : Hid (∀ t ∈ l, 1 ≤ t.k ∧ t.k ≤ 65535) := by
    show ∀ t ∈ l, 1 ≤ t.k ∧ t.k ≤ 65535
    intro t ht
    have : ¬ Tg.wrong t = true := fun h => t2 (List.any_eq_true.2 ⟨t, ht, h⟩)
    simpa [Tg.wrong] using this
  have t2' : l.any Tg.wrong = false := by simpa using t2
  have T2 := Lib.hid t2'
  clear t2 t2'
  go_enter Tryz.func11, Tryz.ntmps11
  go_wp2_with fail
  refine (containsFunc_any 31 Tg.wrong l _ _ (by rw [HN.out]; exact HL.out) (fun _ _ => by kernel_rfl) (fun t _ W => putTags1_any t W)).mono ?_
  rintro e w1 ⟨rfl, hu⟩
  rw [T2.out]
  go_wp2
  go_loopg [4, 16] n (fun m s4 s16 wr => ∃ k : Nat, k + m = n ∧ s16 = .int .i64 k ∧ ∃ o : ByteArray, s4 = .string o ∧ o.size ≤ 1494 ∧ putFrom (l.drop k) o = putFrom l ⟨#[]⟩ ∧ Upd [] w wr)
  case atStart => exact ⟨0, by omega, rfl, ⟨#[]⟩, rfl, by decide, rfl, hu⟩
  case round =>
    obtain ⟨k, hk, rfl, o, rfl, ho, hp, hu⟩ := hrel
    by_cases t : k < n
    · obtain ⟨x, hx⟩ : ∃ x, l[k]? = some x := by
        have := HN.out
        exact ⟨_, List.getElem?_eq_getElem (by omega)⟩
      have hsz := HS.out x (List.mem_of_getElem? hx)
      have hw := HW.out x (List.mem_of_getElem? hx)
      obtain ⟨ao', cap', e0, _, _, h3⟩ := HL.out.upd hu
      injection e0 with e0 _ e2
      subst e0 e2
      obtain ⟨q, rfl, c0, c1⟩ := h3 k x hx
      clear h3
      have hd : l.drop k = x :: l.drop (k + 1) := by
        obtain ⟨h5, h6⟩ := List.getElem?_eq_some_iff.1 hx
        rw [List.drop_eq_getElem_cons h5, h6]
      rw [hd, putFrom] at hp
      have HU := Lib.hid hu
      clear hd hu hx
      by_cases t3 : 1494 < x.s.size
      · rw [if_pos (.inl t3)] at hp
        have HP := Lib.hid hp
        clear hp
        have t3' : (1494 : Int) < x.s.size := by omega
        go_wp2
        go_ret2
        rw [← HP.out]
        exact ⟨rfl, HU.out.alloc _⟩
      · have t3' : ¬ (1494 : Int) < x.s.size := by omega
        by_cases t4 : 1494 < o.size + x.s.size + 4
        · rw [if_pos (.inr t4)] at hp
          have HP := Lib.hid hp
          clear hp
          have t4' : (1494 : Int) < o.size + x.s.size + 4 := by omega
          go_wp2
          go_ret2
          rw [← HP.out]
          exact ⟨rfl, HU.out.alloc _⟩
        · have t4' : ¬ (1494 : Int) < o.size + x.s.size + 4 := by omega
          rw [if_neg (by omega)] at hp
          have HP := Lib.hid hp
          clear hp
          go_wp2
          have A0 := Blk.new wr 63 #[Value.int IntKind.i64 x.k, Value.string x.s]
          have HU2 := Lib.hid (HU.out.alloc (Obj.cells #[Value.int IntKind.i64 x.k, Value.string x.s] 63))
          generalize wr.alloc (Obj.cells #[Value.int IntKind.i64 x.k, Value.string x.s] 63) = w2 at *
          have hcells : ∀ W, Upd [] w2 W → W.cell? ⟨wr.heap.size, 0, none⟩ = some (.int .i64 x.k) ∧ W.cell? ⟨wr.heap.size, 1, none⟩ = some (.string x.s) := fun W hu =>
            ⟨(A0.upd hu (by simp)).cell 0, (A0.upd hu (by simp)).cell 1⟩
          refine wp_region_facts (.pure) (trivial) [.is (.string o), .is (.pointer (some ⟨wr.heap.size, 0, none⟩)), .is (.int .i64 x.k), .is (.string (be 2 x.k)), .is (.pointer (some ⟨wr.heap.size, 1, none⟩)), .is (.string x.s), .is (.int .i64 x.s.size), .is (.string (be 2 x.s.size)), .is (.string (be 2 x.k ++ be 2 x.s.size)), .is (.pointer (some ⟨wr.heap.size, 1, none⟩)), .is (.string x.s), .is (.string x.bytes), .is (.string (o ++ x.bytes)), .is (.string (o ++ x.bytes))] (by kernel_rfl) (by kernel_rfl) (by kernel_rfl) (by kernel_rfl) ?_ ?_
          · refine Steps.cons ?_ (Steps.cons ?_ (Steps.cons ?_ (Steps.cons ?_ (Steps.cons ?_ (Steps.cons ?_ (Steps.cons ?_ (Steps.cons ?_ (Steps.cons ?_ (Steps.cons ?_ (Steps.cons ?_ (Steps.cons ?_ (Steps.cons ?_ (Steps.cons ?_ Steps.nil)))))))))))))
            · refine step_is _ rfl ⟨_, rfl⟩ rfl (fun _ _ => trivial) ?_
              intro a W hi hF hD
              have hu := hi.upd
              have e4 : a.tmps[4]?.getD undef = _ := (ev a 4).symm.trans (hF 4 (by kernel_rfl))
              clear hF hD
              have hc := hcells W hu
              go_simp
            · refine step_is _ rfl ⟨_, rfl⟩ rfl (fun _ _ => trivial) ?_
              intro a W hi hF hD
              have hu := hi.upd
              have e6 : a.tmps[6]?.getD undef = _ := (ev a 6).symm.trans (hF 6 (by kernel_rfl))
              clear hF hD
              have hc := hcells W hu
              go_simp
            · refine step_is _ rfl ⟨_, rfl⟩ rfl (fun _ _ => trivial) ?_
              intro a W hi hF hD
              have hu := hi.upd
              have e35 : a.tmps[35]?.getD undef = .pointer (some ⟨wr.heap.size, 0, none⟩) := (ev a 35).symm.trans (hD _ (Array.mem_of_getElem? (i := 0) rfl) rfl).1
              clear hF hD
              have hc := hcells W hu
              go_simp
            · refine step_call rfl (fun _ _ => trivial) ?_
              intro a W hi hF hD
              have hu := hi.upd
              have e36 : a.tmps[36]?.getD undef = .int .i64 x.k := (ev a 36).symm.trans (hD _ (Array.mem_of_getElem? (i := 0) rfl) rfl).1
              clear hF hD
              have hc := hcells W hu
              refine ⟨_, _, by (go_simp; first | done | rfl | exact ⟨rfl, rfl⟩), ?_⟩
              refine (tagTwo_ok x.k (by omega) _).mono ?_
              rintro e w2 ⟨rfl, hu2⟩
              first | exact ⟨_, rfl, hu2, rfl⟩ | (cases hu2; exact ⟨_, rfl, Upd.refl _ _, rfl⟩)
            · refine step_is _ rfl ⟨_, rfl⟩ rfl (fun _ _ => trivial) ?_
              intro a W hi hF hD
              have hu := hi.upd
              have e6 : a.tmps[6]?.getD undef = _ := (ev a 6).symm.trans (hF 6 (by kernel_rfl))
              clear hF hD
              have hc := hcells W hu
              go_simp
            · refine step_is _ rfl ⟨_, rfl⟩ rfl (fun _ _ => trivial) ?_
              intro a W hi hF hD
              have hu := hi.upd
              have e38 : a.tmps[38]?.getD undef = .pointer (some ⟨wr.heap.size, 1, none⟩) := (ev a 38).symm.trans (hD _ (Array.mem_of_getElem? (i := 0) rfl) rfl).1
              clear hF hD
              have hc := hcells W hu
              go_simp
            · refine step_is _ rfl ⟨_, rfl⟩ rfl (fun _ _ => trivial) ?_
              intro a W hi hF hD
              have hu := hi.upd
              have e39 : a.tmps[39]?.getD undef = .string x.s := (ev a 39).symm.trans (hD _ (Array.mem_of_getElem? (i := 0) rfl) rfl).1
              clear hF hD
              have hc := hcells W hu
              go_simp
            · refine step_call rfl (fun _ _ => trivial) ?_
              intro a W hi hF hD
              have hu := hi.upd
              have e40 : a.tmps[40]?.getD undef = .int .i64 x.s.size := (ev a 40).symm.trans (hD _ (Array.mem_of_getElem? (i := 0) rfl) rfl).1
              clear hF hD
              have hc := hcells W hu
              refine ⟨_, _, by (go_simp; first | done | rfl | exact ⟨rfl, rfl⟩), ?_⟩
              refine (tagTwo_ok x.s.size (by omega) _).mono ?_
              rintro e w2 ⟨rfl, hu2⟩
              first | exact ⟨_, rfl, hu2, rfl⟩ | (cases hu2; exact ⟨_, rfl, Upd.refl _ _, rfl⟩)
            · refine step_is _ rfl ⟨_, rfl⟩ rfl (fun _ _ => trivial) ?_
              intro a W hi hF hD
              have hu := hi.upd
              have e37 : a.tmps[37]?.getD undef = .string (be 2 x.k) := (ev a 37).symm.trans (hD _ (Array.mem_of_getElem? (i := 0) rfl) rfl).1
              have e41 : a.tmps[41]?.getD undef = .string (be 2 x.s.size) := (ev a 41).symm.trans (hD _ (Array.mem_of_getElem? (i := 1) rfl) rfl).1
              clear hF hD
              have hc := hcells W hu
              have := run_string_add_sum (P := Tryz.prog) W (be 2 x.k) (be 2 x.s.size) (by simp only [be_size, maxLen]; omega)
              go_simp
            · refine step_is _ rfl ⟨_, rfl⟩ rfl (fun _ _ => trivial) ?_
              intro a W hi hF hD
              have hu := hi.upd
              have e6 : a.tmps[6]?.getD undef = _ := (ev a 6).symm.trans (hF 6 (by kernel_rfl))
              clear hF hD
              have hc := hcells W hu
              go_simp
            · refine step_is _ rfl ⟨_, rfl⟩ rfl (fun _ _ => trivial) ?_
              intro a W hi hF hD
              have hu := hi.upd
              have e43 : a.tmps[43]?.getD undef = .pointer (some ⟨wr.heap.size, 1, none⟩) := (ev a 43).symm.trans (hD _ (Array.mem_of_getElem? (i := 0) rfl) rfl).1
              clear hF hD
              have hc := hcells W hu
              go_simp
            · refine step_is _ rfl ⟨_, rfl⟩ rfl (fun _ _ => trivial) ?_
              intro a W hi hF hD
              have hu := hi.upd
              have e42 : a.tmps[42]?.getD undef = .string (be 2 x.k ++ be 2 x.s.size) := (ev a 42).symm.trans (hD _ (Array.mem_of_getElem? (i := 0) rfl) rfl).1
              have e44 : a.tmps[44]?.getD undef = .string x.s := (ev a 44).symm.trans (hD _ (Array.mem_of_getElem? (i := 1) rfl) rfl).1
              clear hF hD
              have hc := hcells W hu
              have := run_string_add_sum (P := Tryz.prog) W (be 2 x.k ++ be 2 x.s.size) x.s (by simp only [be_size, maxLen, ByteArray.size_append]; omega)
              go_simp
              rfl
            · refine step_is _ rfl ⟨_, rfl⟩ rfl (fun _ _ => trivial) ?_
              intro a W hi hF hD
              have hu := hi.upd
              have e34 : a.tmps[34]?.getD undef = .string o := (ev a 34).symm.trans (hD _ (Array.mem_of_getElem? (i := 0) rfl) rfl).1
              have e45 : a.tmps[45]?.getD undef = .string x.bytes := (ev a 45).symm.trans (hD _ (Array.mem_of_getElem? (i := 1) rfl) rfl).1
              clear hF hD
              have hc := hcells W hu
              have := run_string_add_sum (P := Tryz.prog) W o x.bytes (by simp only [Tg.bytes_size, maxLen]; omega)
              go_simp
            · refine step_is _ rfl ⟨_, rfl⟩ rfl (fun _ _ => trivial) ?_
              intro a W hi hF hD
              have hu := hi.upd
              have e46 : a.tmps[46]?.getD undef = .string (o ++ x.bytes) := (ev a 46).symm.trans (hD _ (Array.mem_of_getElem? (i := 0) rfl) rfl).1
              clear hF hD
              have hc := hcells W hu
              go_simp
          intro vals W hu hv
          have v0 : vals 0 = .string o := (hv 0 (by decide)).1
          have v1 : vals 1 = .pointer (some ⟨wr.heap.size, 0, none⟩) := (hv 1 (by decide)).1
          have v2 : vals 2 = .int .i64 x.k := (hv 2 (by decide)).1
          have v3 : vals 3 = .string (be 2 x.k) := (hv 3 (by decide)).1
          have v4 : vals 4 = .pointer (some ⟨wr.heap.size, 1, none⟩) := (hv 4 (by decide)).1
          have v5 : vals 5 = .string x.s := (hv 5 (by decide)).1
          have v6 : vals 6 = .int .i64 x.s.size := (hv 6 (by decide)).1
          have v7 : vals 7 = .string (be 2 x.s.size) := (hv 7 (by decide)).1
          have v8 : vals 8 = .string (be 2 x.k ++ be 2 x.s.size) := (hv 8 (by decide)).1
          have v9 : vals 9 = .pointer (some ⟨wr.heap.size, 1, none⟩) := (hv 9 (by decide)).1
          have v10 : vals 10 = .string x.s := (hv 10 (by decide)).1
          have v11 : vals 11 = .string x.bytes := (hv 11 (by decide)).1
          have v12 : vals 12 = .string (o ++ x.bytes) := (hv 12 (by decide)).1
          have v13 : vals 13 = .string (o ++ x.bytes) := (hv 13 (by decide)).1
          clear hv
          simp only [putAll, Act.put, Nat.zero_add, Nat.reduceAdd, v0, v1, v2, v3, v4, v5, v6, v7, v8, v9, v10, v11, v12, v13, List.setIfInBounds_toArray, List.set_cons_zero, List.set_cons_succ]
          clear v0 v1 v2 v3 v4 v5 v6 v7 v8 v9 v10 v11 v12 v13
          have HU3 := Lib.hid (HU2.out.trans hu)
          clear hu hcells A0
          go_wp2
          go_roundg (n - (k + 1))
          case rel => exact ⟨k + 1, by omega, by go_num, o ++ x.bytes, rfl, by rw [ByteArray.size_append, Tg.bytes_size]; omega, HP.out, HU3.out⟩
          case measure => omega
    · obtain rfl : k = n := by omega
      have hd : l.drop k = [] := by rw [HN.out]; simp
      rw [hd] at hp
      have HP := Lib.hid hp
      clear hp hd
      go_wp2
      go_ret2
      rw [← HP.out]
      exact ⟨rfl, hu⟩
end Go.Proofs.YtomnnnjahpoggaaGreat
