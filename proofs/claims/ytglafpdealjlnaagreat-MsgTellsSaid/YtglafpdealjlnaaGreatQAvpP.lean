/- The walk of avp.Put. -/
import Derived.Test.YtglafpdealjlnaaGreatQAvpC
import Derived.Test.YtglafpdealjlnaaGreatQStr
namespace Go.Proofs.YtglafpdealjlnaaGreat
open Go.RowKit
set_option linter.unusedSimpArgs false
set_option linter.unusedVariables false
set_option maxRecDepth 100000

theorem builderLen0 (g : Nat) (w : World) (hb : w.cell? ⟨g, 1, none⟩ = some (.slice none 0 0)) :
    Calls Tryz.prog 232 #[.pointer (some ⟨g, 0, none⟩)] w fun e w' => e = .returned (.int .i64 0) ∧ w = w' := by
  go_enter Tryz.func232, Tryz.ntmps232
  go_wp2_with fail
  go_ret
  exact ⟨rfl, rfl⟩
set_option maxHeartbeats 1000000 in
theorem builderString0 (g : Nat) (w : World) (hb : w.cell? ⟨g, 1, none⟩ = some (.slice none 0 0)) :
    Calls Tryz.prog 233 #[.pointer (some ⟨g, 0, none⟩)] w fun e w' => e = .returned (.string ⟨#[]⟩) ∧ Upd [] w w' := by
  have hcells : ∀ W, Upd [] w W → W.cell? ⟨g, 1, none⟩ = some (.slice none 0 0) := fun W hu => (hu.cell (cell_lt' hb) (by simp)).trans hb
  clear hb
  go_enter Tryz.func233, Tryz.ntmps233
  go_wp2_with fail
  refine wp_region_facts (.pure) (trivial) [.is (.pointer (some ⟨g, 0, none⟩)), .is (.pointer (some ⟨g, 0, none⟩)), .is (.pointer (some ⟨g, 1, none⟩)), .is (.slice none 0 0), .is (.pointer none), .is (.pointer (some ⟨g, 0, none⟩)), .is (.pointer (some ⟨g, 0, none⟩)), .is (.pointer (some ⟨g, 1, none⟩)), .is (.slice none 0 0), .is (.int .i64 0), .is (.string ⟨#[]⟩), .is (.string ⟨#[]⟩)] (by kernel_rfl) (by kernel_rfl) (by kernel_rfl) (by kernel_rfl) ?_ ?_
  · refine Steps.cons ?_ (Steps.cons ?_ (Steps.cons ?_ (Steps.cons ?_ (Steps.cons ?_ (Steps.cons ?_ (Steps.cons ?_ (Steps.cons ?_ (Steps.cons ?_ (Steps.cons ?_ (Steps.cons ?_ (Steps.cons ?_ Steps.nil)))))))))))
    · refine step_is _ rfl ⟨_, rfl⟩ rfl (fun _ _ => trivial) ?_
      intro a W hi hF hD
      have hu := hi.upd
      have e0 : a.tmps[0]?.getD undef = _ := (ev a 0).symm.trans (hF 0 (by kernel_rfl))
      clear hF hD
      have hc := hcells W hu
      go_simp
    · refine step_is _ rfl ⟨_, rfl⟩ rfl (fun _ _ => trivial) ?_
      intro a W hi hF hD
      have hu := hi.upd
      have e3 : a.tmps[3]?.getD undef = .pointer (some ⟨g, 0, none⟩) := (ev a 3).symm.trans (hD _ (Array.mem_of_getElem? (i := 0) rfl) rfl).1
      clear hF hD
      have hc := hcells W hu
      go_simp
    · refine step_is _ rfl ⟨_, rfl⟩ rfl (fun _ _ => trivial) ?_
      intro a W hi hF hD
      have hu := hi.upd
      have e4 : a.tmps[4]?.getD undef = .pointer (some ⟨g, 0, none⟩) := (ev a 4).symm.trans (hD _ (Array.mem_of_getElem? (i := 0) rfl) rfl).1
      clear hF hD
      have hc := hcells W hu
      go_simp
    · refine step_is _ rfl ⟨_, rfl⟩ rfl (fun _ _ => trivial) ?_
      intro a W hi hF hD
      have hu := hi.upd
      have e5 : a.tmps[5]?.getD undef = .pointer (some ⟨g, 1, none⟩) := (ev a 5).symm.trans (hD _ (Array.mem_of_getElem? (i := 0) rfl) rfl).1
      clear hF hD
      have hc := hcells W hu
      go_simp
    · refine step_is _ rfl ⟨_, rfl⟩ rfl (fun _ _ => trivial) ?_
      intro a W hi hF hD
      have hu := hi.upd
      have e6 : a.tmps[6]?.getD undef = .slice none 0 0 := (ev a 6).symm.trans (hD _ (Array.mem_of_getElem? (i := 0) rfl) rfl).1
      clear hF hD
      have hc := hcells W hu
      go_simp
      first | done | rfl
    · refine step_is _ rfl ⟨_, rfl⟩ rfl (fun _ _ => trivial) ?_
      intro a W hi hF hD
      have hu := hi.upd
      have e0 : a.tmps[0]?.getD undef = _ := (ev a 0).symm.trans (hF 0 (by kernel_rfl))
      clear hF hD
      have hc := hcells W hu
      go_simp
    · refine step_is _ rfl ⟨_, rfl⟩ rfl (fun _ _ => trivial) ?_
      intro a W hi hF hD
      have hu := hi.upd
      have e8 : a.tmps[8]?.getD undef = .pointer (some ⟨g, 0, none⟩) := (ev a 8).symm.trans (hD _ (Array.mem_of_getElem? (i := 0) rfl) rfl).1
      clear hF hD
      have hc := hcells W hu
      go_simp
    · refine step_is _ rfl ⟨_, rfl⟩ rfl (fun _ _ => trivial) ?_
      intro a W hi hF hD
      have hu := hi.upd
      have e9 : a.tmps[9]?.getD undef = .pointer (some ⟨g, 0, none⟩) := (ev a 9).symm.trans (hD _ (Array.mem_of_getElem? (i := 0) rfl) rfl).1
      clear hF hD
      have hc := hcells W hu
      go_simp
    · refine step_is _ rfl ⟨_, rfl⟩ rfl (fun _ _ => trivial) ?_
      intro a W hi hF hD
      have hu := hi.upd
      have e10 : a.tmps[10]?.getD undef = .pointer (some ⟨g, 1, none⟩) := (ev a 10).symm.trans (hD _ (Array.mem_of_getElem? (i := 0) rfl) rfl).1
      clear hF hD
      have hc := hcells W hu
      go_simp
    · refine step_is _ rfl ⟨_, rfl⟩ rfl (fun _ _ => trivial) ?_
      intro a W hi hF hD
      have hu := hi.upd
      have e11 : a.tmps[11]?.getD undef = .slice none 0 0 := (ev a 11).symm.trans (hD _ (Array.mem_of_getElem? (i := 0) rfl) rfl).1
      clear hF hD
      have hc := hcells W hu
      go_simp
    · refine step_is _ rfl ⟨_, rfl⟩ rfl (fun _ _ => trivial) ?_
      intro a W hi hF hD
      have hu := hi.upd
      have e7 : a.tmps[7]?.getD undef = .pointer none := (ev a 7).symm.trans (hD _ (Array.mem_of_getElem? (i := 0) rfl) rfl).1
      have e12 : a.tmps[12]?.getD undef = .int .i64 0 := (ev a 12).symm.trans (hD _ (Array.mem_of_getElem? (i := 1) rfl) rfl).1
      clear hF hD
      have hc := hcells W hu
      go_simp
      first | done | rfl
    · refine step_is _ rfl ⟨_, rfl⟩ rfl (fun _ _ => trivial) ?_
      intro a W hi hF hD
      have hu := hi.upd
      have e13 : a.tmps[13]?.getD undef = .string ⟨#[]⟩ := (ev a 13).symm.trans (hD _ (Array.mem_of_getElem? (i := 0) rfl) rfl).1
      clear hF hD
      have hc := hcells W hu
      go_simp
  intro vals W hu hv
  have v0 : vals 0 = .pointer (some ⟨g, 0, none⟩) := (hv 0 (by decide)).1
  have v1 : vals 1 = .pointer (some ⟨g, 0, none⟩) := (hv 1 (by decide)).1
  have v2 : vals 2 = .pointer (some ⟨g, 1, none⟩) := (hv 2 (by decide)).1
  have v3 : vals 3 = .slice none 0 0 := (hv 3 (by decide)).1
  have v4 : vals 4 = .pointer none := (hv 4 (by decide)).1
  have v5 : vals 5 = .pointer (some ⟨g, 0, none⟩) := (hv 5 (by decide)).1
  have v6 : vals 6 = .pointer (some ⟨g, 0, none⟩) := (hv 6 (by decide)).1
  have v7 : vals 7 = .pointer (some ⟨g, 1, none⟩) := (hv 7 (by decide)).1
  have v8 : vals 8 = .slice none 0 0 := (hv 8 (by decide)).1
  have v9 : vals 9 = .int .i64 0 := (hv 9 (by decide)).1
  have v10 : vals 10 = .string ⟨#[]⟩ := (hv 10 (by decide)).1
  have v11 : vals 11 = .string ⟨#[]⟩ := (hv 11 (by decide)).1
  clear hv
  simp only [putAll, Act.put, Nat.zero_add, Nat.reduceAdd, v0, v1, v2, v3, v4, v5, v6, v7, v8, v9, v10, v11, List.setIfInBounds_toArray, List.set_cons_zero, List.set_cons_succ]
  clear v0 v1 v2 v3 v4 v5 v6 v7 v8 v9 v10 v11
  go_wp2_with fail
  go_ret
  exact ⟨rfl, hu⟩

set_option maxHeartbeats 1000000 in
theorem avpPut0 (cap : Nat) (ao : Option Addr) (s : ByteArray) (w : World) :
    Calls Tryz.prog 81 #[.slice ao 0 cap, .string s] w fun e w' => e = .returned (.tuple #[.string ⟨#[]⟩, .int .i64 0]) ∧ Upd [] w w' := by
  go_enter Tryz.func81, Tryz.ntmps81
  go_wp2_with fail
  go_loopg [16] 0 (fun m s16 wr => s16 = .int .i64 0 ∧ Upd [] w wr ∧ wr.cell? ⟨w.heap.size, 1, none⟩ = some (.slice none 0 0))
  case atStart => exact ⟨rfl, (Upd.refl _ _).alloc _, (Blk.new w _ _).cell 1⟩
  case round =>
    obtain ⟨rfl, hu, hc⟩ := hrel
    have HU := Lib.hid hu
    have HC := Lib.hid hc
    clear hu hc
    go_wp2_with fail
    refine (builderLen0 _ _ HC.out).mono ?_
    rintro e w1 ⟨rfl, rfl⟩
    go_wp2_with fail
    refine (builderString0 _ _ HC.out).mono ?_
    rintro e w1 ⟨rfl, hu1⟩
    go_wp2_with fail
    go_ret2
    exact ⟨rfl, HU.out.trans hu1⟩

theorem or14 (a x : Int) (h : 0 ≤ a ∧ a ≤ 3 ∧ 0 ≤ x ∧ x < 16384) : bits .or .i64 (a * 16384) x = a * 16384 + x := by
  obtain ⟨m, rfl⟩ := Int.eq_ofNat_of_zero_le h.1
  obtain ⟨y, rfl⟩ := Int.eq_ofNat_of_zero_le h.2.2.1
  have h1 : (BitVec.ofInt 64 ((m : Int) * 16384)).toNat = m * 16384 := by
    rw [BitVec.toNat_ofInt]
    omega
  have h2 : (BitVec.ofInt 64 (y : Int)).toNat = y := by
    rw [BitVec.toNat_ofInt]
    omega
  show IntKind.i64.wrap ((BitVec.ofInt 64 ((m : Int) * 16384) ||| BitVec.ofInt 64 (y : Int)).toNat : Nat) = _
  rw [BitVec.toNat_or, h1, h2, show m * 16384 = 2 ^ 14 * m by omega, ← Nat.two_pow_add_eq_or_of_lt (by omega)]
  rw [IntWalk.i64_in _ (by omega)]
  omega
theorem or_flags (a : Av) (n : Nat) (h : n < 16384) : bits .or .i64 (flagsA a) (n : Int) = flagsA a + n := by
  have := flagsA_bd a
  have h2 := or14 (flagsA a / 16384) n (by omega)
  rw [show flagsA a / 16384 * 16384 = flagsA a by omega] at h2
  exact h2

def encA (a : Av) (c : ByteArray) : ByteArray := be 2 (flagsA a + c.size + 6) ++ be 2 a.vendor ++ be 2 a.kind ++ c
theorem encA_size (a : Av) (c : ByteArray) : (encA a c).size = 6 + c.size := by simp [encA, ByteArray.size_append, be_size]
def putFromA (secret : ByteArray) : List Av → List Av → ByteArray → ByteArray × Int
  | _, [], out => if 1488 < out.size then (⟨#[]⟩, 2) else (out, 0)
  | pre, a :: r, out => if (contentA a pre secret).2 ≠ 0 then (⟨#[]⟩, (contentA a pre secret).2) else putFromA secret (pre ++ [a]) r (out ++ encA a (contentA a pre secret).1)
def putA (l : List Av) (secret : ByteArray) : ByteArray × Int := if 40 < l.length then (⟨#[]⟩, 2) else putFromA secret [] l ⟨#[]⟩
theorem contentA_ok {a : Av} {pre : List Av} {secret : ByteArray} (h : (contentA a pre secret).2 = 0) : ((0 ≤ a.vendor ∧ a.vendor ≤ 65535) ∧ (0 ≤ a.kind ∧ a.kind ≤ 65535)) ∧ a.val.size ≤ 1000 ∧
    (contentA a pre secret).1 = if a.hidden = false then a.val else maskB false a.kind secret (vec pre).1 (be 2 a.val.size ++ a.val) := by
  unfold contentA at h ⊢
  by_cases t1 : ¬ ((0 ≤ a.vendor ∧ a.vendor ≤ 65535) ∧ (0 ≤ a.kind ∧ a.kind ≤ 65535))
  · rw [if_pos t1] at h; cases h
  rw [if_neg t1] at h ⊢
  refine ⟨Classical.not_not.1 t1, ?_⟩
  by_cases t2 : 1000 < a.val.size
  · rw [if_pos t2] at h; cases h
  rw [if_neg t2] at h ⊢
  refine ⟨by omega, ?_⟩
  by_cases t3 : a.hidden = false
  · rw [if_pos t3, if_pos t3]
  rw [if_neg t3] at h ⊢
  by_cases t4 : secret.size = 0
  · rw [if_pos t4] at h; cases h
  rw [if_neg t4] at h ⊢
  by_cases t5 : (vec pre).2 = false
  · rw [if_pos t5] at h; cases h
  rw [if_neg t5, if_neg t3]
theorem contentA_size {a : Av} {pre : List Av} {secret : ByteArray} (h : (contentA a pre secret).2 = 0) : (contentA a pre secret).1.size ≤ 1002 := by
  obtain ⟨_, h1, h2⟩ := contentA_ok h
  rw [h2]
  split
  · omega
  · rw [maskB_size, ByteArray.size_append, be_size]; omega
theorem vec_size (l : List Av) (m : Nat) (h : ∀ a ∈ l, a.val.size ≤ m) : (vec l).1.size ≤ m := by
  unfold vec
  cases hf : l.reverse.find? isVec with
  | none => exact Nat.zero_le _
  | some t => exact h t (by simpa using List.mem_of_find?_eq_some hf)

theorem bld_upd {B b : Nat} {bs : List Value} {w w' : World} (h : Lib.IsBuilder 241 5 B b bs w) (hu : Upd [] w w') : Lib.IsBuilder 241 5 B b bs w' := by
  have key : ∀ p, Lib.BuilderAt 241 5 B b p bs w → Lib.BuilderAt 241 5 B b p bs w' := by
    rintro p ⟨hB, v, hb, hown, hne⟩
    have up : ∀ g o, w.heap[g]? = some o → w'.heap[g]? = some o := fun g o h => by
      have hlt : g < w.heap.size := (Array.getElem?_eq_some_iff.1 h).1
      rw [hu.block g hlt (by simp)]
      exact h
    refine ⟨hB, v, up _ _ hb, ⟨hown.1, ?_⟩, hne⟩
    rcases hown.2 with h | ⟨g, cap, cur, hv, hg, hh, r⟩
    · exact .inl h
    · exact .inr ⟨g, cap, cur, hv, hg, up _ _ hh, r⟩
  exact h.imp (key _) (key _)
/-- The builder written to by the last operation. -/
def wrA (B b : Nat) (bs : List Value) (w0 : World) : List Value → World → Prop
  | [], W => Upd [] w0 W
  | _ :: _, W => Lib.IsBuilder 241 5 B b bs W ∧ Below B w0 W
theorem strCells_app (x y : ByteArray) : Lib.byteCells x.data.toList ++ Lib.strCells y = Lib.byteCells (x ++ y).data.toList := by
  rw [Lib.strCells_eq, ByteArray.data_append, Array.toList_append]
  simp [Lib.byteCells]

set_option maxHeartbeats 4000000 in
theorem avpPut_any (l : List Av) (v : Value) (secret : ByteArray) (w : World) (hl : AvsAt w v l) (hs : secret.size ≤ 400000) :
    Calls Tryz.prog 81 #[v, .string secret] w fun e w' => e = .returned (.tuple #[.string (putA l secret).1, .int .i64 (putA l secret).2]) ∧ Upd [] w w' := by
  obtain ⟨ao, cap, rfl, h1, h2, h3⟩ := id hl
  obtain ⟨n, hn⟩ : ∃ n, n = l.length := ⟨_, rfl⟩
  obtain ⟨R, hR⟩ : ∃ R, putA l secret = R := ⟨_, rfl⟩
  rw [hR]
  have HR : Hid ((if 40 < n then (⟨#[]⟩, 2) else putFromA secret [] l ⟨#[]⟩) = R) := by show _ = _; rw [← hR, putA, hn]
  by_cases t0 : n = 0
  · have hl0 : l = [] := List.eq_nil_of_length_eq_zero (by omega)
    subst hl0
    rw [← hR]
    exact avpPut0 _ _ _ _
  clear hR
  rw [← hn] at h1
  rw [← hn]
  have HL := Lib.hid hl
  have HN := Lib.hid hn
  simp only [maxLen] at h2
  clear h3 hl hn
  by_cases t1 : 40 < n
  · have hr := HR.out
    rw [if_pos t1] at hr
    subst hr
    clear HR
    have t1' : (40 : Int) < n := by omega
    go_enter Tryz.func81, Tryz.ntmps81
    go_wp2_with fail
    go_ret2
    exact ⟨rfl, Upd.refl _ _⟩
  have HR2 : Hid (putFromA secret [] l ⟨#[]⟩ = R) := (if_neg t1).symm.trans HR.out
  have t1' : ¬ (40 : Int) < n := by omega
  clear HR
  have hpt : Tryz.prog.underlying 22 = some (.slice (Tryz.prog.elem 22)) := by kernel_rfl
  have hsz : ∀ W, (sizeOf (Tryz.prog.elem 22)).run Tryz.prog W = .ok 5 W := fun W => by rw [show Tryz.prog.elem 22 = 85 by kernel_rfl]; exact Tryz.sizeOf85 W
  have HPF : Hid (∀ (a : Option Addr) (n c m : Nat), m ≤ c → ∀ W, (Instr.slice 22 (.slice a n c) none (some (.int .i64 (m : Int))) none).run Tryz.prog W = .ok (.slice a m c) W) := fun a n c m hm W => run_prefix (P := Tryz.prog) 22 hpt 5 hsz a n c m hm W
  clear hpt hsz
  have B0 : Lib.IsBuilder 241 5 w.heap.size w.heap.size (Lib.byteCells (⟨#[]⟩ : ByteArray).data.toList) (w.alloc (Obj.cells #[.pointer none, .slice none 0 0] 241)) :=
    .inl ⟨Nat.le_refl _, .slice none 0 0, heap_alloc_new w _, World.ownsRow_nil _ _ _ _, by simp [Value.ownBlock]⟩
  have U0 : Below w.heap.size w (w.alloc (Obj.cells #[.pointer none, .slice none 0 0] 241)) := (Below.refl _ w).alloc (Nat.le_refl _) _
  go_enter Tryz.func81, Tryz.ntmps81
  go_wp2_with fail
  go_loopg [16] n (fun m s16 wr => ∃ (k : Nat) (out : ByteArray), k + m = n ∧ s16 = .int .i64 k ∧ out.size ≤ 2000 * k ∧ 6 * k ≤ out.size ∧ (∀ a ∈ l.take k, a.val.size ≤ 1000) ∧ putFromA secret (l.take k) (l.drop k) out = R ∧
    Lib.IsBuilder 241 5 w.heap.size w.heap.size (Lib.byteCells out.data.toList) wr ∧ Below w.heap.size w wr)
  case atStart => exact ⟨0, ⟨#[]⟩, by omega, rfl, Nat.le_refl _, Nat.le_refl _, by simp, HR2.out, B0, U0⟩
  case round =>
    obtain ⟨k, out, hk, rfl, ho, ho6, hall, hp, hB, hu⟩ := hrel
    clear HR2 B0 U0
    have HB := Lib.hid hB
    have HU := Lib.hid hu
    have hwz : w.heap.size ≤ wr.heap.size := hu.size
    clear hB hu
    by_cases t : k < n
    · obtain ⟨x, hx⟩ : ∃ x, l[k]? = some x := by
        have := HN.out
        exact ⟨_, List.getElem?_eq_getElem (by omega)⟩
      have hd : l.drop k = x :: l.drop (k + 1) := by
        obtain ⟨h5, h6⟩ := List.getElem?_eq_some_iff.1 hx
        rw [List.drop_eq_getElem_cons h5, h6]
      have htk : l.take k ++ [x] = l.take (k + 1) := by rw [List.take_add_one, hx]; rfl
      rw [hd, putFromA, htk] at hp
      have HA : Hid (∀ W, Upd [] wr W → AvsAt W (.slice ao k cap) (l.take k)) := fun W hW =>
        ((show AvsAt w (.slice ao n cap) l from by rw [HN.out]; exact HL.out).take k (by rw [← HN.out]; omega)).upd ((Upd.of_below HU.out : Upd [] w wr).trans hW)
      have hvs := vec_size (l.take k) 1000 hall
      have HC : Hid (∀ W, Upd [] wr W → Calls Tryz.prog 228 #[x.agg, .slice ao k cap, .string secret] W fun e w' => e = .returned (.tuple #[.string (contentA x (l.take k) secret).1, .int .i64 (contentA x (l.take k) secret).2]) ∧ Upd [] W w') :=
        fun W hW => content_any x (l.take k) _ secret W (HA.out W hW) hs (by omega)
      have hcz := @contentA_size x (l.take k) secret
      have hcx := fun h => (@contentA_ok x (l.take k) secret h).2.1
      have hck := fun h => (@contentA_ok x (l.take k) secret h).1
      obtain ⟨c, e, hce⟩ : ∃ c e, contentA x (l.take k) secret = (c, e) := ⟨_, _, rfl⟩
      rw [hce] at hp hcz hcx hck HC
      dsimp only at hp hcz hcx hck HC
      have HP := Lib.hid hp
      have HALL := Lib.hid hall
      have HX := Lib.hid hx
      obtain ⟨ao', cap', e0, _, _, h3⟩ := HL.out.upd (Upd.of_below HU.out : Upd [] w wr)
      injection e0 with e0 _ e2
      subst e0 e2
      obtain ⟨q, rfl, c0, c1, c2, c3, c4⟩ := h3 k x hx
      clear h3 hd htk hp hvs hce hall hx
      go_wp2_with fail
      have A0 := Blk.new wr 85 #[.bool x.must, .bool x.hidden, .int .i64 x.vendor, .int .i64 x.kind, .string x.val]
      have HU2 := Lib.hid ((Upd.refl [] wr).alloc (Obj.cells #[.bool x.must, .bool x.hidden, .int .i64 x.vendor, .int .i64 x.kind, .string x.val] 85))
      generalize wr.alloc (Obj.cells #[.bool x.must, .bool x.hidden, .int .i64 x.vendor, .int .i64 x.kind, .string x.val] 85) = w2 at *
      have hcells : ∀ W, Upd [] w2 W → W.cell? ⟨wr.heap.size, 0, none⟩ = some (.bool x.must) ∧ W.cell? ⟨wr.heap.size, 1, none⟩ = some (.bool x.hidden) ∧ W.cell? ⟨wr.heap.size, 2, none⟩ = some (.int .i64 x.vendor) ∧ W.cell? ⟨wr.heap.size, 3, none⟩ = some (.int .i64 x.kind) ∧ W.cell? ⟨wr.heap.size, 4, none⟩ = some (.string x.val) := fun W hu =>
        ⟨(A0.upd hu (by simp)).cell 0, (A0.upd hu (by simp)).cell 1, (A0.upd hu (by simp)).cell 2, (A0.upd hu (by simp)).cell 3, (A0.upd hu (by simp)).cell 4⟩
      clear c0 c1 c2 c3 c4
      refine wp_region_facts (.pure) (trivial) [.is (.agg #[.bool x.must, .bool x.hidden, .int .i64 x.vendor, .int .i64 x.kind, .string x.val]), .is (.slice (some q) n cap), .is (.int .i64 k), .is (.slice (some q) k cap), .is (.string secret), .is (.tuple #[.string c, .int .i64 e]), .is (.tuple #[.string c, .int .i64 e]), .is (.string c), .is (.int .i64 e), .is (.string c), .is (.int .i64 e)] (by kernel_rfl) (by kernel_rfl) (by kernel_rfl) (by kernel_rfl) ?_ ?_
      · refine Steps.cons ?_ (Steps.cons ?_ (Steps.cons ?_ (Steps.cons ?_ (Steps.cons ?_ (Steps.cons ?_ (Steps.cons ?_ (Steps.cons ?_ (Steps.cons ?_ (Steps.cons ?_ (Steps.cons ?_ Steps.nil))))))))))
        · refine step_is _ rfl ⟨_, rfl⟩ rfl (fun _ _ => trivial) ?_
          intro a W hi hF hD
          have hu := hi.upd
          have e8 : a.tmps[8]?.getD undef = _ := (ev a 8).symm.trans (hF 8 (by kernel_rfl))
          clear hF hD
          have hc := hcells W hu
          go_simp
        · refine step_is _ rfl ⟨_, rfl⟩ rfl (fun _ _ => trivial) ?_
          intro a W hi hF hD
          have hu := hi.upd
          have e0 : a.tmps[0]?.getD undef = _ := (ev a 0).symm.trans (hF 0 (by kernel_rfl))
          clear hF hD
          have hc := hcells W hu
          go_simp
        · refine step_is _ rfl ⟨_, rfl⟩ rfl (fun _ _ => trivial) ?_
          intro a W hi hF hD
          have hu := hi.upd
          have e7 : a.tmps[7]?.getD undef = _ := (ev a 7).symm.trans (hF 7 (by kernel_rfl))
          clear hF hD
          have hc := hcells W hu
          go_simp
        · refine step_is _ rfl ⟨_, rfl⟩ rfl (fun _ _ => trivial) ?_
          intro a W hi hF hD
          have hu := hi.upd
          have e23 : a.tmps[23]?.getD undef = .slice (some q) n cap := (ev a 23).symm.trans (hD _ (Array.mem_of_getElem? (i := 0) rfl) rfl).1
          have e24 : a.tmps[24]?.getD undef = .int .i64 k := (ev a 24).symm.trans (hD _ (Array.mem_of_getElem? (i := 1) rfl) rfl).1
          clear hF hD
          have hc := hcells W hu
          have := HPF.out (some q) n cap k (by omega) W
          go_simp
        · refine step_is _ rfl ⟨_, rfl⟩ rfl (fun _ _ => trivial) ?_
          intro a W hi hF hD
          have hu := hi.upd
          have e1 : a.tmps[1]?.getD undef = _ := (ev a 1).symm.trans (hF 1 (by kernel_rfl))
          clear hF hD
          have hc := hcells W hu
          go_simp
        · refine step_call rfl (fun _ _ => trivial) ?_
          intro a W hi hF hD
          have hu := hi.upd
          have e22 : a.tmps[22]?.getD undef = .agg #[.bool x.must, .bool x.hidden, .int .i64 x.vendor, .int .i64 x.kind, .string x.val] := (ev a 22).symm.trans (hD _ (Array.mem_of_getElem? (i := 0) rfl) rfl).1
          have e25 : a.tmps[25]?.getD undef = .slice (some q) k cap := (ev a 25).symm.trans (hD _ (Array.mem_of_getElem? (i := 1) rfl) rfl).1
          have e26 : a.tmps[26]?.getD undef = .string secret := (ev a 26).symm.trans (hD _ (Array.mem_of_getElem? (i := 2) rfl) rfl).1
          clear hF hD
          have hc := hcells W hu
          refine ⟨_, _, by (go_simp; first | done | rfl | exact ⟨rfl, rfl⟩), ?_⟩
          refine (HC.out _ (HU2.out.trans hu)).mono ?_
          rintro e w2 ⟨rfl, hu2⟩
          first | exact ⟨_, rfl, hu2, rfl⟩ | (cases hu2; exact ⟨_, rfl, Upd.refl _ _, rfl⟩)
        · refine step_is _ rfl ⟨_, rfl⟩ rfl (fun _ _ => trivial) ?_
          intro a W hi hF hD
          have hu := hi.upd
          have e27 : a.tmps[27]?.getD undef = .tuple #[.string c, .int .i64 e] := (ev a 27).symm.trans (hD _ (Array.mem_of_getElem? (i := 0) rfl) rfl).1
          clear hF hD
          have hc := hcells W hu
          go_simp
        · refine step_is _ rfl ⟨_, rfl⟩ rfl (fun _ _ => trivial) ?_
          intro a W hi hF hD
          have hu := hi.upd
          have e21 : a.tmps[21]?.getD undef = .tuple #[.string c, .int .i64 e] := (ev a 21).symm.trans (hD _ (Array.mem_of_getElem? (i := 0) rfl) rfl).1
          clear hF hD
          have hc := hcells W hu
          go_simp
        · refine step_is _ rfl ⟨_, rfl⟩ rfl (fun _ _ => trivial) ?_
          intro a W hi hF hD
          have hu := hi.upd
          have e21 : a.tmps[21]?.getD undef = .tuple #[.string c, .int .i64 e] := (ev a 21).symm.trans (hD _ (Array.mem_of_getElem? (i := 0) rfl) rfl).1
          clear hF hD
          have hc := hcells W hu
          go_simp
        · refine step_is _ rfl ⟨_, rfl⟩ rfl (fun _ _ => trivial) ?_
          intro a W hi hF hD
          have hu := hi.upd
          have e28 : a.tmps[28]?.getD undef = .string c := (ev a 28).symm.trans (hD _ (Array.mem_of_getElem? (i := 0) rfl) rfl).1
          clear hF hD
          have hc := hcells W hu
          go_simp
        · refine step_is _ rfl ⟨_, rfl⟩ rfl (fun _ _ => trivial) ?_
          intro a W hi hF hD
          have hu := hi.upd
          have e29 : a.tmps[29]?.getD undef = .int .i64 e := (ev a 29).symm.trans (hD _ (Array.mem_of_getElem? (i := 0) rfl) rfl).1
          clear hF hD
          have hc := hcells W hu
          go_simp
      intro vals W hu hv
      have v0 : vals 0 = .agg #[.bool x.must, .bool x.hidden, .int .i64 x.vendor, .int .i64 x.kind, .string x.val] := (hv 0 (by decide)).1
      have v1 : vals 1 = .slice (some q) n cap := (hv 1 (by decide)).1
      have v2 : vals 2 = .int .i64 k := (hv 2 (by decide)).1
      have v3 : vals 3 = .slice (some q) k cap := (hv 3 (by decide)).1
      have v4 : vals 4 = .string secret := (hv 4 (by decide)).1
      have v5 : vals 5 = .tuple #[.string c, .int .i64 e] := (hv 5 (by decide)).1
      have v6 : vals 6 = .tuple #[.string c, .int .i64 e] := (hv 6 (by decide)).1
      have v7 : vals 7 = .string c := (hv 7 (by decide)).1
      have v8 : vals 8 = .int .i64 e := (hv 8 (by decide)).1
      have v9 : vals 9 = .string c := (hv 9 (by decide)).1
      have v10 : vals 10 = .int .i64 e := (hv 10 (by decide)).1
      clear hv
      simp only [putAll, Act.put, Nat.zero_add, Nat.reduceAdd, v0, v1, v2, v3, v4, v5, v6, v7, v8, v9, v10, List.setIfInBounds_toArray, List.set_cons_zero, List.set_cons_succ]
      clear v0 v1 v2 v3 v4 v5 v6 v7 v8 v9 v10
      obtain ⟨w5, rfl⟩ : ∃ w5, w5 = W := ⟨_, rfl⟩
      have HU3 := Lib.hid hu
      clear hu
      by_cases t2 : e = 0
      · subst e
        have hz := hcz rfl
        have hx1 := hcx rfl
        have hx2 := hck rfl
        have hp := HP.out
        rw [if_neg (by simp)] at hp
        have HP2 := Lib.hid hp
        clear hp HP hcz hcx hck
        have HF := Lib.hid (avpFlags_any x)
        have hor := or_flags x c.size (by omega)
        have hfb := flagsA_bd x
        generalize hfl : flagsA x = fl at *
        have HT1 := Lib.hid (avpTwo_ok (fl + c.size + 6) (by omega))
        have HT2 := Lib.hid (avpTwo_ok x.vendor (by omega))
        have HT3 := Lib.hid (avpTwo_ok x.kind (by omega))
        have HE : Hid (encA x c = be 2 (fl + c.size + 6) ++ be 2 x.vendor ++ be 2 x.kind ++ c) := by show _ = _; rw [encA, hfl]
        have hez := encA_size x c
        generalize encA x c = en at *
        have z1 := be_size 2 (fl + c.size + 6)
        have z2 := be_size 2 x.vendor
        have z3 := be_size 2 x.kind
        generalize be 2 (fl + c.size + 6) = y1 at *
        generalize be 2 x.vendor = y2 at *
        generalize be 2 x.kind = y3 at *
        have hbz : (Lib.byteCells out.data.toList).length = out.size := by rw [Lib.byteCells_length]; rfl
        have HW : Hid (∀ W0, Upd [] wr W0 → Calls Tryz.prog 229 #[.pointer (some ⟨w.heap.size, 0, none⟩), .string en] W0 fun e w' => e = .returned (.tuple #[.int .i64 en.size, .nilIface]) ∧ (Lib.BuilderAt 241 5 w.heap.size w.heap.size (.pointer (some ⟨w.heap.size, 0, none⟩)) (Lib.byteCells (out ++ en).data.toList) w' ∧ Below w.heap.size W0 w')) := fun W0 hW0 => by
          have := bldWrite_any w.heap.size w.heap.size (Lib.byteCells out.data.toList) en W0 (bld_upd HB.out hW0) (by omega) (by have := hW0.size; omega)
          rw [strCells_app] at this
          exact this
        clear hfl
        go_wp2_with fail
        refine wp_region_chain [some (.agg #[.bool x.must, .bool x.hidden, .int .i64 x.vendor, .int .i64 x.kind, .string x.val]), some (.int .i64 fl), some (.string c), some (.int .i64 c.size), some (.int .i64 (fl + c.size)), some (.int .i64 (fl + c.size + 6)), some (.string y1), some (.pointer (some ⟨wr.heap.size, 2, none⟩)), some (.int .i64 x.vendor), some (.string y2), some (.string (y1 ++ y2)), some (.pointer (some ⟨wr.heap.size, 3, none⟩)), some (.int .i64 x.kind), some (.string y3), some (.string (y1 ++ y2 ++ y3)), some (.string c), some (.string en), none] [17] (wrA w.heap.size w.heap.size (Lib.byteCells (out ++ en).data.toList) w5) [(0, 0), (0, 0), (0, 0), (0, 0), (0, 0), (0, 0), (0, 0), (0, 0), (0, 0), (0, 0), (0, 0), (0, 0), (0, 0), (0, 0), (0, 0), (0, 0), (0, 0), (0, 0)] (by kernel_rfl) (by kernel_rfl) (by kernel_rfl) (by kernel_rfl) (by kernel_rfl) (by kernel_rfl) ((Upd.refl _ _).drew) ?_ ?_
        · refine StepsC.cons ?_ (StepsC.cons ?_ (StepsC.cons ?_ (StepsC.cons ?_ (StepsC.cons ?_ (StepsC.cons ?_ (StepsC.cons ?_ (StepsC.cons ?_ (StepsC.cons ?_ (StepsC.cons ?_ (StepsC.cons ?_ (StepsC.cons ?_ (StepsC.cons ?_ (StepsC.cons ?_ (StepsC.cons ?_ (StepsC.cons ?_ (StepsC.cons ?_ (StepsC.cons ?_ StepsC.nil)))))))))))))))))
          · refine chain_is _ (.inl rfl) ⟨_, rfl⟩ (by kernel_rfl) rfl ?_
            intro a W kst l0 h0 A0 hF hD
            have k0 : kst = 0 := Nat.le_antisymm h0 l0
            subst k0
            clear l0 h0
            have e8 : a.tmps[8]?.getD undef = _ := (ev a 8).symm.trans (hF 8 (by kernel_rfl))
            clear hF hD
            have hu : Upd [] w5 W := A0
            have hc := hcells W (HU3.out.trans hu)
            go_simp
          · refine chain_beside _ (.inl rfl) ⟨_, rfl⟩ (by kernel_rfl) rfl ?_
            intro a W kst l0 h0 A0 hF hD
            have k0 : kst = 0 := Nat.le_antisymm h0 l0
            subst k0
            clear l0 h0
            have e33 : a.tmps[33]?.getD undef = .agg #[.bool x.must, .bool x.hidden, .int .i64 x.vendor, .int .i64 x.kind, .string x.val] := (ev a 33).symm.trans (hD _ (Array.mem_of_getElem? (i := 0) rfl) rfl)
            clear hF hD
            have hu : Upd [] w5 W := A0
            refine ⟨_, _, by (go_simp; first | done | rfl | exact ⟨rfl, rfl⟩), ?_⟩
            refine (HF.out _).mono ?_
            rintro e wq ⟨rfl, hu2⟩
            exact ⟨rfl, hu.trans hu2⟩
          · refine chain_is _ (.inl rfl) ⟨_, rfl⟩ (by kernel_rfl) rfl ?_
            intro a W kst l0 h0 A0 hF hD
            have k0 : kst = 0 := Nat.le_antisymm h0 l0
            subst k0
            clear l0 h0
            have e9 : a.tmps[9]?.getD undef = _ := (ev a 9).symm.trans (hF 9 (by kernel_rfl))
            clear hF hD
            go_simp
          · refine chain_is _ (.inl rfl) ⟨_, rfl⟩ (by kernel_rfl) rfl ?_
            intro a W kst l0 h0 A0 hF hD
            have k0 : kst = 0 := Nat.le_antisymm h0 l0
            subst k0
            clear l0 h0
            have e35 : a.tmps[35]?.getD undef = .string c := (ev a 35).symm.trans (hD _ (Array.mem_of_getElem? (i := 0) rfl) rfl)
            clear hF hD
            go_simp
          · refine chain_is _ (.inl rfl) ⟨_, rfl⟩ (by kernel_rfl) rfl ?_
            intro a W kst l0 h0 A0 hF hD
            have k0 : kst = 0 := Nat.le_antisymm h0 l0
            subst k0
            clear l0 h0
            have e34 : a.tmps[34]?.getD undef = .int .i64 fl := (ev a 34).symm.trans (hD _ (Array.mem_of_getElem? (i := 0) rfl) rfl)
            have e36 : a.tmps[36]?.getD undef = .int .i64 c.size := (ev a 36).symm.trans (hD _ (Array.mem_of_getElem? (i := 1) rfl) rfl)
            clear hF hD
            go_simp
          · refine chain_is _ (.inl rfl) ⟨_, rfl⟩ (by kernel_rfl) rfl ?_
            intro a W kst l0 h0 A0 hF hD
            have k0 : kst = 0 := Nat.le_antisymm h0 l0
            subst k0
            clear l0 h0
            have e37 : a.tmps[37]?.getD undef = .int .i64 (fl + c.size) := (ev a 37).symm.trans (hD _ (Array.mem_of_getElem? (i := 0) rfl) rfl)
            clear hF hD
            go_simp
            exact IntWalk.i64_in _ (by omega)
          · refine chain_beside _ (.inl rfl) ⟨_, rfl⟩ (by kernel_rfl) rfl ?_
            intro a W kst l0 h0 A0 hF hD
            have k0 : kst = 0 := Nat.le_antisymm h0 l0
            subst k0
            clear l0 h0
            have e38 : a.tmps[38]?.getD undef = .int .i64 (fl + c.size + 6) := (ev a 38).symm.trans (hD _ (Array.mem_of_getElem? (i := 0) rfl) rfl)
            clear hF hD
            have hu : Upd [] w5 W := A0
            refine ⟨_, _, by (go_simp; first | done | rfl | exact ⟨rfl, rfl⟩), ?_⟩
            refine (HT1.out _).mono ?_
            rintro e wq ⟨rfl, hu2⟩
            exact ⟨rfl, hu.trans hu2⟩
          · refine chain_is _ (.inl rfl) ⟨_, rfl⟩ (by kernel_rfl) rfl ?_
            intro a W kst l0 h0 A0 hF hD
            have k0 : kst = 0 := Nat.le_antisymm h0 l0
            subst k0
            clear l0 h0
            have e8 : a.tmps[8]?.getD undef = _ := (ev a 8).symm.trans (hF 8 (by kernel_rfl))
            clear hF hD
            go_simp
          · refine chain_is _ (.inl rfl) ⟨_, rfl⟩ (by kernel_rfl) rfl ?_
            intro a W kst l0 h0 A0 hF hD
            have k0 : kst = 0 := Nat.le_antisymm h0 l0
            subst k0
            clear l0 h0
            have e40 : a.tmps[40]?.getD undef = .pointer (some ⟨wr.heap.size, 2, none⟩) := (ev a 40).symm.trans (hD _ (Array.mem_of_getElem? (i := 0) rfl) rfl)
            clear hF hD
            have hu : Upd [] w5 W := A0
            have hc := hcells W (HU3.out.trans hu)
            go_simp
          · refine chain_beside _ (.inl rfl) ⟨_, rfl⟩ (by kernel_rfl) rfl ?_
            intro a W kst l0 h0 A0 hF hD
            have k0 : kst = 0 := Nat.le_antisymm h0 l0
            subst k0
            clear l0 h0
            have e41 : a.tmps[41]?.getD undef = .int .i64 x.vendor := (ev a 41).symm.trans (hD _ (Array.mem_of_getElem? (i := 0) rfl) rfl)
            clear hF hD
            have hu : Upd [] w5 W := A0
            refine ⟨_, _, by (go_simp; first | done | rfl | exact ⟨rfl, rfl⟩), ?_⟩
            refine (HT2.out _).mono ?_
            rintro e wq ⟨rfl, hu2⟩
            exact ⟨rfl, hu.trans hu2⟩
          · refine chain_is _ (.inl rfl) ⟨_, rfl⟩ (by kernel_rfl) rfl ?_
            intro a W kst l0 h0 A0 hF hD
            have k0 : kst = 0 := Nat.le_antisymm h0 l0
            subst k0
            clear l0 h0
            have e39 : a.tmps[39]?.getD undef = .string y1 := (ev a 39).symm.trans (hD _ (Array.mem_of_getElem? (i := 0) rfl) rfl)
            have e42 : a.tmps[42]?.getD undef = .string y2 := (ev a 42).symm.trans (hD _ (Array.mem_of_getElem? (i := 1) rfl) rfl)
            clear hF hD
            have := run_string_add_sum (P := Tryz.prog) W y1 y2 (by omega)
            go_simp
          · refine chain_is _ (.inl rfl) ⟨_, rfl⟩ (by kernel_rfl) rfl ?_
            intro a W kst l0 h0 A0 hF hD
            have k0 : kst = 0 := Nat.le_antisymm h0 l0
            subst k0
            clear l0 h0
            have e8 : a.tmps[8]?.getD undef = _ := (ev a 8).symm.trans (hF 8 (by kernel_rfl))
            clear hF hD
            go_simp
          · refine chain_is _ (.inl rfl) ⟨_, rfl⟩ (by kernel_rfl) rfl ?_
            intro a W kst l0 h0 A0 hF hD
            have k0 : kst = 0 := Nat.le_antisymm h0 l0
            subst k0
            clear l0 h0
            have e44 : a.tmps[44]?.getD undef = .pointer (some ⟨wr.heap.size, 3, none⟩) := (ev a 44).symm.trans (hD _ (Array.mem_of_getElem? (i := 0) rfl) rfl)
            clear hF hD
            have hu : Upd [] w5 W := A0
            have hc := hcells W (HU3.out.trans hu)
            go_simp
          · refine chain_beside _ (.inl rfl) ⟨_, rfl⟩ (by kernel_rfl) rfl ?_
            intro a W kst l0 h0 A0 hF hD
            have k0 : kst = 0 := Nat.le_antisymm h0 l0
            subst k0
            clear l0 h0
            have e45 : a.tmps[45]?.getD undef = .int .i64 x.kind := (ev a 45).symm.trans (hD _ (Array.mem_of_getElem? (i := 0) rfl) rfl)
            clear hF hD
            have hu : Upd [] w5 W := A0
            refine ⟨_, _, by (go_simp; first | done | rfl | exact ⟨rfl, rfl⟩), ?_⟩
            refine (HT3.out _).mono ?_
            rintro e wq ⟨rfl, hu2⟩
            exact ⟨rfl, hu.trans hu2⟩
          · refine chain_is _ (.inl rfl) ⟨_, rfl⟩ (by kernel_rfl) rfl ?_
            intro a W kst l0 h0 A0 hF hD
            have k0 : kst = 0 := Nat.le_antisymm h0 l0
            subst k0
            clear l0 h0
            have e43 : a.tmps[43]?.getD undef = .string (y1 ++ y2) := (ev a 43).symm.trans (hD _ (Array.mem_of_getElem? (i := 0) rfl) rfl)
            have e46 : a.tmps[46]?.getD undef = .string y3 := (ev a 46).symm.trans (hD _ (Array.mem_of_getElem? (i := 1) rfl) rfl)
            clear hF hD
            have := run_string_add_sum (P := Tryz.prog) W (y1 ++ y2) y3 (by rw [ByteArray.size_append]; omega)
            go_simp
          · refine chain_is _ (.inl rfl) ⟨_, rfl⟩ (by kernel_rfl) rfl ?_
            intro a W kst l0 h0 A0 hF hD
            have k0 : kst = 0 := Nat.le_antisymm h0 l0
            subst k0
            clear l0 h0
            have e9 : a.tmps[9]?.getD undef = _ := (ev a 9).symm.trans (hF 9 (by kernel_rfl))
            clear hF hD
            go_simp
          · refine chain_is _ (.inl rfl) ⟨_, rfl⟩ (by kernel_rfl) rfl ?_
            intro a W kst l0 h0 A0 hF hD
            have k0 : kst = 0 := Nat.le_antisymm h0 l0
            subst k0
            clear l0 h0
            have e47 : a.tmps[47]?.getD undef = .string (y1 ++ y2 ++ y3) := (ev a 47).symm.trans (hD _ (Array.mem_of_getElem? (i := 0) rfl) rfl)
            have e48 : a.tmps[48]?.getD undef = .string c := (ev a 48).symm.trans (hD _ (Array.mem_of_getElem? (i := 1) rfl) rfl)
            clear hF hD
            have := run_string_add_sum (P := Tryz.prog) W (y1 ++ y2 ++ y3) c (by rw [ByteArray.size_append, ByteArray.size_append]; omega)
            have := HE.out
            go_simp
            done
          · refine chain_call (.inl rfl) ⟨_, rfl⟩ (by kernel_rfl) ?_
            intro a W kst l0 h0 A0 hF hD
            have k0 : kst = 0 := Nat.le_antisymm h0 l0
            subst k0
            clear l0 h0
            have e49 : a.tmps[49]?.getD undef = .string en := (ev a 49).symm.trans (hD _ (Array.mem_of_getElem? (i := 0) rfl) rfl)
            have e6 : a.tmps[6]?.getD undef = _ := (ev a 6).symm.trans (hF 6 (by kernel_rfl))
            clear hF hD
            have hu : Upd [] w5 W := A0
            refine ⟨_, _, by (go_simp; first | done | rfl | exact ⟨rfl, rfl⟩), ?_⟩
            refine (HW.out W (HU2.out.trans (HU3.out.trans hu))).mono ?_
            rintro e wq ⟨rfl, hb, hbl⟩
            exact ⟨_, rfl, trivial, .inr hb, (hu.below.mono (by have := HU3.out.size; have := HU2.out.size; omega)).trans hbl⟩
        intro vals W hv hA
        have v0 : vals 0 = .agg #[.bool x.must, .bool x.hidden, .int .i64 x.vendor, .int .i64 x.kind, .string x.val] := hv 0 (by decide)
        have v1 : vals 1 = .int .i64 fl := hv 1 (by decide)
        have v2 : vals 2 = .string c := hv 2 (by decide)
        have v3 : vals 3 = .int .i64 c.size := hv 3 (by decide)
        have v4 : vals 4 = .int .i64 (fl + c.size) := hv 4 (by decide)
        have v5 : vals 5 = .int .i64 (fl + c.size + 6) := hv 5 (by decide)
        have v6 : vals 6 = .string y1 := hv 6 (by decide)
        have v7 : vals 7 = .pointer (some ⟨wr.heap.size, 2, none⟩) := hv 7 (by decide)
        have v8 : vals 8 = .int .i64 x.vendor := hv 8 (by decide)
        have v9 : vals 9 = .string y2 := hv 9 (by decide)
        have v10 : vals 10 = .string (y1 ++ y2) := hv 10 (by decide)
        have v11 : vals 11 = .pointer (some ⟨wr.heap.size, 3, none⟩) := hv 11 (by decide)
        have v12 : vals 12 = .int .i64 x.kind := hv 12 (by decide)
        have v13 : vals 13 = .string y3 := hv 13 (by decide)
        have v14 : vals 14 = .string (y1 ++ y2 ++ y3) := hv 14 (by decide)
        have v15 : vals 15 = .string c := hv 15 (by decide)
        have v16 : vals 16 = .string en := hv 16 (by decide)
        clear hv
        obtain ⟨hB, hu⟩ := hA
        simp only [putAll, Act.put, Nat.zero_add, Nat.reduceAdd, v0, v1, v2, v3, v4, v5, v6, v7, v8, v9, v10, v11, v12, v13, v14, v15, v16, List.setIfInBounds_toArray, List.set_cons_zero, List.set_cons_succ]
        clear v0 v1 v2 v3 v4 v5 v6 v7 v8 v9 v10 v11 v12 v13 v14 v15 v16
        have HB2 := Lib.hid hB
        have HU4 : Hid (Below w.heap.size w W) := HU.out.trans (((HU2.out.trans HU3.out).below.mono hwz).trans hu)
        clear hB hu
        go_wp2_with fail
        go_roundg (n - (k + 1))
        case rel =>
          refine ⟨k + 1, out ++ en, by omega, by go_num, by rw [ByteArray.size_append]; omega, by rw [ByteArray.size_append]; omega, ?_, HP2.out, HB2.out, HU4.out⟩
          intro a ha
          rw [List.take_add_one, HX.out] at ha
          rcases List.mem_append.1 ha with h | h
          · exact HALL.out a h
          · simp at h; subst h; exact hx1
        case measure => omega
      · have hp := HP.out
        rw [if_pos t2] at hp
        have HP2 := Lib.hid hp
        have t2' : ((e != 0) : Bool) = true := by simpa using t2
        clear hp HP hcz hcx hck
        go_wp2_with fail
        go_ret2
        rw [← HP2.out]
        exact ⟨rfl, (Upd.of_below HU.out : Upd [] w wr).trans (HU2.out.trans HU3.out)⟩
    · obtain rfl : k = n := by omega
      have hd : l.drop k = [] := by rw [HN.out]; simp
      rw [hd, putFromA] at hp
      have hbz : (Lib.byteCells out.data.toList).length = out.size := by rw [Lib.byteCells_length]; rfl
      clear hall hd
      have HLn := Lib.hid (bldLen_any w.heap.size w.heap.size _ wr HB.out)
      rw [hbz] at HLn
      by_cases t2 : 1488 < out.size
      · rw [if_pos t2] at hp
        subst hp
        have t2' : (1488 : Int) < out.size := by omega
        go_wp2_with fail
        refine HLn.out.mono ?_
        rintro e w1 ⟨rfl, rfl⟩
        go_wp2_with fail
        go_ret2
        exact ⟨rfl, Upd.of_below HU.out⟩
      · rw [if_neg t2] at hp
        subst hp
        have t2' : ¬ (1488 : Int) < out.size := by omega
        go_wp2_with fail
        refine HLn.out.mono ?_
        rintro e w1 ⟨rfl, rfl⟩
        go_wp2_with fail
        refine (bldString_any w.heap.size w.heap.size out wr HB.out (by omega)).mono ?_
        rintro e w1 ⟨rfl, hu1⟩
        go_wp2_with fail
        go_ret2
        exact ⟨rfl, Upd.of_below (HU.out.trans hu1)⟩
end Go.Proofs.YtglafpdealjlnaaGreat
