/- The walk of the statement OptsTells. -/
import Derived.Test.YthkfgjmifoeljaaGreatOptU
import Derived.Test.YthkfgjmifoeljaaGreatApp
import Derived.Test.YthkfgjmifoeljaaGreatBkOptionsL
import Derived.Test.YthkfgjmifoeljaaGreatBkApOptions
import Derived.Test.YthkfgjmifoeljaaGreatBkZ
import Derived.Test.YthkfgjmifoeljaaGreatRes3
namespace Go.Proofs.YthkfgjmifoeljaaGreat
open Go.RowKit
set_option linter.unusedSimpArgs false
set_option linter.unusedVariables false
set_option maxRecDepth 100000

/-- A list is lent: before, behind. -/
def lentA (w0 : World) (l : List Tg) (vs : List Value) (W : World) : Prop := match vs with
  | [] => Upd [] w0 W
  | [v] => Upd [] w0 W ∧ ∃ own, LentAt bkCOptions 67 2 bkLOptions W v l own ∧ ∀ k ∈ own, w0.heap.size ≤ k
  | [v, x] => Upd [] w0 W ∧ x = v ∧ ∃ own, LentAt bkCOptions 67 2 bkLOptions W v l own ∧ ∀ k ∈ own, w0.heap.size ≤ k
  | _ => False
def packA (w0 : World) (cs : Array Value) (vs : List Value) (W : World) : Prop := match vs with
  | [] => Upd [] w0 W
  | [p] => Upd [] w0 W ∧ ∃ g, w0.heap.size ≤ g ∧ p = .pointer (some ⟨g, 0, none⟩) ∧ Blk W g 24 #[.int .i64 0, .int .i64 0, .slice none 0 0, .string ⟨#[]⟩]
  | [p, _] => Upd [] w0 W ∧ ∃ g, w0.heap.size ≤ g ∧ p = .pointer (some ⟨g, 0, none⟩) ∧ Blk W g 24 cs
  | _ => False
def loadA (w0 : World) (x : Value) (vs : List Value) (W : World) : Prop := match vs with
  | [] => Upd [] w0 W
  | [v] => Upd [] w0 W ∧ v = x
  | _ => False
def updA (w0 : World) (_ : List Value) (W : World) : Prop := Upd [] w0 W
theorem lentA_keep {w0 W W' : World} {l : List Tg} {vs : List Value} (h : lentA w0 l vs W) (hu : Upd [] W W') : lentA w0 l vs W' := by
  match vs, h with
  | [], h => exact Upd.trans h hu
  | [v], ⟨h1, own, h2, h3⟩ => exact ⟨h1.trans hu, own, h2.updD hu, h3⟩
  | [v, _], ⟨h1, h4, own, h2, h3⟩ => exact ⟨h1.trans hu, h4, own, h2.updD hu, h3⟩
theorem packA_keep {w0 W W' : World} {cs : Array Value} {vs : List Value} (h : packA w0 cs vs W) (hu : Upd [] W W') : packA w0 cs vs W' := by
  match vs, h with
  | [], h => exact Upd.trans h hu
  | [v], ⟨h1, g, h2, h3, h4⟩ => exact ⟨h1.trans hu, g, h2, h3, h4.upd hu (by simp)⟩
  | [v, _], ⟨h1, g, h2, h3, h4⟩ => exact ⟨h1.trans hu, g, h2, h3, h4.upd hu (by simp)⟩
theorem loadA_keep {w0 W W' : World} {x : Value} {vs : List Value} (h : loadA w0 x vs W) (hu : Upd [] W W') : loadA w0 x vs W' := by
  match vs, h with
  | [], h => exact Upd.trans h hu
  | [v], ⟨h1, h2⟩ => exact ⟨h1.trans hu, h2⟩
theorem lentA_upd {w0 W : World} {l : List Tg} {vs : List Value} (h : lentA w0 l vs W) : Upd [] w0 W := by
  match vs, h with
  | [], h => exact h
  | [v], ⟨h1, _⟩ => exact h1
  | [v, _], ⟨h1, _⟩ => exact h1

theorem getOptFrom_len : ∀ (M : Nat) (b : ByteArray) (out : List Tg), out.length ≤ 30 → (getOptFrom M b out).1.length ≤ 30
  | 0, _, _, h => h
  | M + 1, b, out, h => by
    rw [getOptFrom]
    split
    · exact h
    · split
      · simp
      · split
        · simp
        · split
          · simp
          · split
            · simp
            · exact getOptFrom_len M _ _ (by simp; omega)
theorem getOpts_len (b : ByteArray) : (getOpts b).1.length ≤ 30 := getOptFrom_len _ _ _ (by simp)
theorem pkGet_len (b : ByteArray) : (Pk.get b).1.opts.length ≤ 30 := by
  rw [Pk.get]
  split
  · rw [ofData_opts]; simp
  · split
    · simp [Pk.zero]
    · exact getOpts_len _

set_option maxHeartbeats 8000000 in
theorem optsTells_any (p : Pk) (vo : Value) (l : List Tg) (u : Value) (b : ByteArray) (kind : Int) (w : World) (hp : TgsAt w vo p.opts) (hl : TgsAt w u l) (hps : ∀ t ∈ p.opts, t.s.size ≤ 140737488355328) (hls : ∀ t ∈ l, t.s.size ≤ 140737488355328)
    (hd : p.data.size ≤ 140737488355328) (hb : b.size ≤ 140737488355328) :
    Calls Tryz.prog 3 #[p.val vo, u, .string b, .int .i64 kind] w fun e w' => e = .returned (.bool true) ∧ Upd [] w w' := by
  obtain ⟨ao, cap, rfl, hc1, hc2, -⟩ := id hl
  obtain ⟨bo, cbp, rfl, hd1, hd2, -⟩ := id hp
  have HLS := Lib.hid hls
  have HPS := Lib.hid hps
  have HL00 := Lib.hid hl
  have HP00 := Lib.hid hp
  clear hl hls hp hps
  obtain ⟨A, hA⟩ : ∃ A, A = Obj.cells #[Value.int IntKind.i64 p.code, Value.int IntKind.i64 p.id, .slice bo p.opts.length cbp, Value.string p.data] 24 := ⟨_, rfl⟩
  have A0 : Blk (w.alloc A) w.heap.size 24 #[Value.int IntKind.i64 p.code, Value.int IntKind.i64 p.id, .slice bo p.opts.length cbp, Value.string p.data] := by rw [hA]; exact Blk.new _ _ _
  have U0 := Lib.hid ((Upd.refl [] w).alloc A)
  have HA := Lib.hid hA
  have HA0 := Lib.hid A0
  have HC : Hid (∀ W, Upd [] (w.alloc A) W → W.cell? ⟨w.heap.size, 0, none⟩ = some (.int .i64 p.code) ∧ W.cell? ⟨w.heap.size, 1, none⟩ = some (.int .i64 p.id) ∧ W.cell? ⟨w.heap.size, 2, none⟩ = some (.slice bo p.opts.length cbp) ∧ W.cell? ⟨w.heap.size, 3, none⟩ = some (.string p.data)) := fun W hu =>
    ⟨(A0.upd hu (by simp)).cell 0, (A0.upd hu (by simp)).cell 1, (A0.upd hu (by simp)).cell 2, (A0.upd hu (by simp)).cell 3⟩
  have HL := Lib.hid (HL00.out.upd U0.out)
  have HP := Lib.hid (HP00.out.upd U0.out)
  clear A0 hA HL00 HP00
  by_cases t1 : LightO l = true
  rotate_left
  · have T1 : Hid (LightO l = false) := by show _ = _; simpa using t1
    clear t1
    go_enter Tryz.func3, Tryz.ntmps3
    simp only [Pk.val]
    go_wp2_with fail
    rw [← HA.out]
    refine (lightO_any l _ _ HL.out HLS.out).mono ?_
    rintro e w1 ⟨rfl, hu1⟩
    rw [T1.out]
    go_wp2_with fail
    refine (alive_any _).mono ?_
    rintro e w2 ⟨rfl, hu2⟩
    go_wp2_with fail
    go_ret
    exact ⟨rfl, (U0.out.trans hu1).trans hu2⟩
  have T1 := Lib.hid t1
  clear t1
  by_cases t2 : LightO p.opts = true
  rotate_left
  · have T2 : Hid (LightO p.opts = false) := by show _ = _; simpa using t2
    clear t2
    go_enter Tryz.func3, Tryz.ntmps3
    simp only [Pk.val]
    go_wp2_with fail
    rw [← HA.out]
    refine (lightO_any l _ _ HL.out HLS.out).mono ?_
    rintro e w1 ⟨rfl, hu1⟩
    rw [T1.out]
    have HU1 := Lib.hid hu1
    obtain ⟨x0, x1, x2, x3⟩ := HC.out w1 hu1
    clear hu1
    go_wp2_with fail
    refine (lightO_any p.opts _ _ (HP.out.upd HU1.out) HPS.out).mono ?_
    rintro e w2 ⟨rfl, hu2⟩
    rw [T2.out]
    have HU2 := Lib.hid (HU1.out.trans hu2)
    clear hu2
    go_wp2_with fail
    refine (alive_any _).mono ?_
    rintro e w3 ⟨rfl, hu3⟩
    go_wp2_with fail
    go_ret
    exact ⟨rfl, (U0.out.trans HU2.out).trans hu3⟩
  have T2 := Lib.hid t2
  clear t2
  by_cases t3 : 6000 < p.data.size + b.size
  · have t3' : (6000 : Int) < p.data.size + b.size := by omega
    go_enter Tryz.func3, Tryz.ntmps3
    simp only [Pk.val]
    go_wp2_with fail
    rw [← HA.out]
    refine (lightO_any l _ _ HL.out HLS.out).mono ?_
    rintro e w1 ⟨rfl, hu1⟩
    rw [T1.out]
    have HU1 := Lib.hid hu1
    obtain ⟨x0, x1, x2, x3⟩ := HC.out w1 hu1
    clear hu1
    go_wp2_with fail
    refine (lightO_any p.opts _ _ (HP.out.upd HU1.out) HPS.out).mono ?_
    rintro e w2 ⟨rfl, hu2⟩
    rw [T2.out]
    have HU2 := Lib.hid (HU1.out.trans hu2)
    clear x0 x1 x2 x3
    obtain ⟨x0, x1, x2, x3⟩ := HC.out w2 (HU1.out.trans hu2)
    clear hu2
    go_wp2_with fail
    refine (alive_any _).mono ?_
    rintro e w3 ⟨rfl, hu3⟩
    go_wp2_with fail
    go_ret
    exact ⟨rfl, (U0.out.trans HU2.out).trans hu3⟩
  have t3' : ¬ (6000 : Int) < p.data.size + b.size := by omega
  obtain ⟨P0, P1, hP⟩ : ∃ (x : ByteArray) (e : Int), p.put = (x, e) := ⟨_, _, rfl⟩
  obtain ⟨D0, D1, hD⟩ : ∃ (x : ByteArray) (e : Int), p.putData = (x, e) := ⟨_, _, rfl⟩
  obtain ⟨Q0, Q1, hQ⟩ : ∃ (x : ByteArray) (e : Int), putOpts l = (x, e) := ⟨_, _, rfl⟩
  obtain ⟨⟨gc, gi, go, gd⟩, ge, hG⟩ : ∃ (x : Pk) (e : Int), Pk.get b = (x, e) := ⟨_, _, rfl⟩
  obtain ⟨⟨ec, ei, eo, ed⟩, ee, hE⟩ : ∃ (x : Pk) (e : Int), Pk.ofData b = (x, e) := ⟨_, _, rfl⟩
  obtain ⟨Y0, Y1, hY⟩ : ∃ (x : List Tg) (e : Int), getOpts b = (x, e) := ⟨_, _, rfl⟩
  obtain ⟨F0, F1, hF⟩ : ∃ (x : ByteArray) (e : Bool), findO kind l = (x, e) := ⟨_, _, rfl⟩
  obtain ⟨V0, V1, hV⟩ : ∃ (x : Int) (e : Bool), valueB b = (x, e) := ⟨_, _, rfl⟩
  have HPP := Lib.hid hP
  have HDD := Lib.hid hD
  have HQ := Lib.hid hQ
  have HG := Lib.hid hG
  have HE := Lib.hid hE
  have HY := Lib.hid hY
  have HF := Lib.hid hF
  have HV := Lib.hid hV
  have HBS : Hid (b.size ≤ maxLen) := by show _ ≤ _; simp only [maxLen]; omega
  have HDS : Hid (p.data.size ≤ maxLen) := by show _ ≤ _; simp only [maxLen]; omega
  have HBB := Lib.hid hb
  have HPD := Lib.hid hd
  have HLL : Hid (l.length ≤ 50) := (LightO_spec T1.out).1
  have HPL : Hid (p.opts.length ≤ 50) := (LightO_spec T2.out).1
  have HGL : Hid (go.length ≤ 30) := by have h := pkGet_len b; rw [hG] at h; exact h
  have HYL : Hid (Y0.length ≤ 30) := by have h := getOpts_len b; rw [hY] at h; exact h
  clear hP hD hQ hG hE hY hF hV
  go_enter Tryz.func3, Tryz.ntmps3
  simp only [Pk.val]
  go_wp2_with fail
  rw [← HA.out]
  refine (lightO_any l _ _ HL.out HLS.out).mono ?_
  rintro e w1 ⟨rfl, hu1⟩
  rw [T1.out]
  have HU1 := Lib.hid hu1
  obtain ⟨x0, x1, x2, x3⟩ := HC.out w1 hu1
  clear hu1
  go_wp2_with fail
  refine (lightO_any p.opts _ _ (HP.out.upd HU1.out) HPS.out).mono ?_
  rintro e w2 ⟨rfl, hu2⟩
  rw [T2.out]
  have HU2 := Lib.hid (HU1.out.trans hu2)
  clear x0 x1 x2 x3
  obtain ⟨x0, x1, x2, x3⟩ := HC.out w2 (HU1.out.trans hu2)
  clear hu2 HU1
  go_wp2_with (refine wpList_build_of rfl 47 rfl bkZ (bk_build _) ?_)
  have HK0 : Hid (BkOptions (w.alloc A) (w2.alloc (Obj.cells bkZ 47)) w2.heap.size []) := BkOptions.zero (w.alloc A) w2 HU2.out (cs := bkZ) rfl
  generalize w2.alloc (Obj.cells bkZ 47) = w8 at *
  generalize w2.heap.size = g at *
  clear x0 x1 x2 x3 HU2 T1 T2
  obtain ⟨sb, hsb⟩ : ∃ x, x = decide (l = p.opts) := ⟨_, rfl⟩
  have HSB := Lib.hid hsb
  have hsn : (sb != sb) = false := by cases sb <;> rfl
  have hfn : (F1 != F1) = false := by cases F1 <;> rfl
  have hvn : (V1 != V1) = false := by cases V1 <;> rfl
  clear hsb
  generalize HW0 : w.alloc A = W0 at *
  clear HW0
  obtain ⟨B0, hB0⟩ : ∃ x, x = w.heap.size := ⟨_, rfl⟩
  rw [← hB0] at HA0 HC
  rw [← hB0]
  clear hB0 HA
  obtain ⟨no, hno⟩ : ∃ x, x = p.opts.length := ⟨_, rfl⟩
  rw [← hno] at HA0 HC HP
  rw [← hno]
  have HNO := Lib.hid hno
  clear hno hd1
  go_loopg [10] 2 (fun mm s10 wr => ∃ (k : Nat) (R : List (Bit Tg)), k + mm = 2 ∧ s10 = .int .i64 k ∧ BkOptions W0 wr g R)
  case atStart => exact ⟨0, [], by omega, rfl, HK0.out⟩
  case round =>
    obtain ⟨k, R, hk, rfl, hbk⟩ := hrel
    have HBK := Lib.hid hbk
    clear hbk
    by_cases t : k < 2
    · have ti : (k : Int) < 2 := by omega
      have HL1 := Lib.hid (HL.out.upd HBK.out.ups)
      have HP1 := Lib.hid (HP.out.upd HBK.out.ups)
      have HX1 := Lib.hid (HA0.out.upd HBK.out.ups (by simp))
      have hcx : ∀ W, Upd [] wr W → W.cell? ⟨B0, 0, none⟩ = some (.int .i64 p.code) ∧ W.cell? ⟨B0, 1, none⟩ = some (.int .i64 p.id) ∧ W.cell? ⟨B0, 2, none⟩ = some (.slice bo no cbp) ∧ W.cell? ⟨B0, 3, none⟩ = some (.string p.data) := fun W hu =>
        HC.out W (HBK.out.ups.trans hu)
      have hwq0 : Upd [] wr wr.drew := (Upd.refl _ _).drew
      go_wp2_with fail
      refine wp_region_res3 [none, some (.slice ao l.length cap), none, none, none, none] [2, 5] [3, 4] [0] (lentA wr l) (packA wr #[.int .i64 p.code, .int .i64 p.id, .slice bo no cbp, .string p.data]) (loadA wr (.agg #[.int .i64 p.code, .int .i64 p.id, .slice bo no cbp, .string p.data])) [[(0, 1), (0, 1), (0, 0)], [(0, 0), (0, 1), (0, 1)], [(0, 0), (0, 1), (0, 1)], [(0, 1), (0, 0), (0, 1)], [(1, 1), (1, 1), (1, 1)], [(1, 1), (2, 2), (1, 1)]] (by kernel_rfl) (by kernel_rfl) (by kernel_rfl) (by kernel_rfl) (by kernel_rfl) (by kernel_rfl) (hwq0) (hwq0) (hwq0) ?_ ?_
      · refine StepsR.cons ?_ (StepsR.cons ?_ (StepsR.cons ?_ (StepsR.cons ?_ (StepsR.cons ?_ (StepsR.cons ?_ StepsR.nil)))))
        · refine res_run rfl ⟨_, rfl⟩ ?_
          intro a W ks hR hF hD
          obtain ⟨⟨l0, u0, A0⟩, ⟨l1, u1, A1⟩, ⟨l2, u2, A2⟩, -⟩ := hR
          have k2 := Nat.le_antisymm u2 l2
          rw [k2] at A2
          have e4 : a.tmps[4]?.getD undef = _ := (ev a 4).symm.trans (hF 4 (by kernel_rfl))
          clear hF hD
          have hu : Upd [] wr W := A2
          obtain ⟨x0, x1, x2, x3⟩ := hcx W hu
          exact ⟨.agg #[.int .i64 p.code, .int .i64 p.id, .slice bo no cbp, .string p.data], W, by (go_simp; first | done | rfl), trivial, kept_post (by kernel_rfl) A0, kept_post (by kernel_rfl) A1, next_post k2 (by kernel_rfl) ⟨hu, rfl⟩, trivial⟩
        · refine res_is _ rfl ⟨_, rfl⟩ (by kernel_rfl) rfl ?_
          intro a W ks hR hF hD
          obtain ⟨⟨l0, u0, A0⟩, ⟨l1, u1, A1⟩, ⟨l2, u2, A2⟩, -⟩ := hR
          have k0 := Nat.le_antisymm u0 l0
          rw [k0] at A0
          have e1 : a.tmps[1]?.getD undef = _ := (ev a 1).symm.trans (hF 1 (by kernel_rfl))
          clear hF hD
          go_simp
        · refine res_call rfl ⟨_, rfl⟩ ?_
          intro a W ks hR hF hD
          obtain ⟨⟨l0, u0, A0⟩, ⟨l1, u1, A1⟩, ⟨l2, u2, A2⟩, -⟩ := hR
          have k0 := Nat.le_antisymm u0 l0
          rw [k0] at A0
          have e71 : a.tmps[71]?.getD undef = .slice ao l.length cap := (ev a 71).symm.trans (hD _ (Array.mem_of_getElem? (i := 0) rfl) rfl)
          clear hF hD
          have hu : Upd [] wr W := A0
          refine ⟨_, _, by (go_simp; first | done | rfl | exact ⟨rfl, rfl⟩), ?_⟩
          refine (bkLentOptions l _ _ (HL1.out.upd hu).rd (by have := HLL.out; omega)).mono ?_
          rintro e wz ⟨v1, own1, rfl, hv1, hf1, huz⟩
          exact ⟨_, rfl, trivial, next_post k0 (by kernel_rfl) ⟨hu.trans huz, own1, hv1, fun y hy => Nat.le_trans hu.size (hf1 y hy)⟩, kept_post (by kernel_rfl) (packA_keep A1 huz), kept_post (by kernel_rfl) (loadA_keep A2 huz), trivial⟩
        · refine res_run rfl ⟨_, rfl⟩ ?_
          intro a W ks hR hF hD
          obtain ⟨⟨l0, u0, A0⟩, ⟨l1, u1, A1⟩, ⟨l2, u2, A2⟩, -⟩ := hR
          have k1 := Nat.le_antisymm u1 l1
          rw [k1] at A1
          clear hF hD
          have hu : Upd [] wr W := A1
          have U5 : Upd [] W (W.alloc (.cells #[.int .i64 0, .int .i64 0, .slice none 0 0, .string ⟨#[]⟩] 24)) := (Upd.refl _ _).alloc _
          exact ⟨.pointer (some ⟨W.heap.size, 0, none⟩), W.alloc (.cells #[.int .i64 0, .int .i64 0, .slice none 0 0, .string ⟨#[]⟩] 24), by (go_simp; first | done | rfl), trivial, kept_post (by kernel_rfl) (lentA_keep A0 U5), next_post k1 (by kernel_rfl) ⟨hu.trans U5, W.heap.size, hu.size, rfl, Blk.new _ _ _⟩, kept_post (by kernel_rfl) (loadA_keep A2 U5), trivial⟩
        · refine res_set rfl rfl trivial ?_
          intro a W ks hR hF hD
          obtain ⟨⟨l0, u0, A0⟩, ⟨l1, u1, A1⟩, ⟨l2, u2, A2⟩, -⟩ := hR
          have k0 := Nat.le_antisymm u0 l0
          rw [k0] at A0
          have k1 := Nat.le_antisymm u1 l1
          rw [k1] at A1
          have k2 := Nat.le_antisymm u2 l2
          rw [k2] at A2
          clear hF hD
          obtain ⟨hu, g1, hg1, hg2, hg3⟩ := A1
          obtain ⟨hu2, hv⟩ := A2
          have e11 : a.tmps[11]?.getD undef = _ := (ev a 11).symm.trans hg2
          have e70 : a.tmps[70]?.getD undef = _ := (ev a 70).symm.trans hv
          have s0 := hg3.cell 0
          have s1 := hg3.cell 1
          have s2 := hg3.cell 2
          have s3 := hg3.cell 3
          have f0 := hg3.frozen 0
          have f1 := hg3.frozen 1
          have f2 := hg3.frozen 2
          have f3 := hg3.frozen 3
          have hlt := hg3.lt
          simp only [List.size_toArray, List.length_cons, List.length_nil, List.getElem?_toArray, List.getElem?_cons_zero, List.getElem?_cons_succ] at s0 s1 s2 s3
          have hb4 := (((hg3.set_ 0 (.int .i64 p.code)).set_ 1 (.int .i64 p.id)).set_ 2 (.slice bo no cbp)).set_ 3 (.string p.data)
          have UU : Upd [] wr ((((W.setCell ⟨g1, 0, none⟩ (.int .i64 p.code)).setCell ⟨g1, 1, none⟩ (.int .i64 p.id)).setCell ⟨g1, 2, none⟩ (.slice bo no cbp)).setCell ⟨g1, 3, none⟩ (.string p.data)) := ((((hu.setCell _ (.inr hg1)).setCell _ (.inr hg1)).setCell _ (.inr hg1)).setCell _ (.inr hg1))
          have UG : Upd [g1] W ((((W.setCell ⟨g1, 0, none⟩ (.int .i64 p.code)).setCell ⟨g1, 1, none⟩ (.int .i64 p.id)).setCell ⟨g1, 2, none⟩ (.slice bo no cbp)).setCell ⟨g1, 3, none⟩ (.string p.data)) := (((((Upd.refl [g1] W).setCell _ (.inl (by simp))).setCell _ (.inl (by simp))).setCell _ (.inl (by simp))).setCell _ (.inl (by simp)))
          obtain ⟨-, own0, hl0, hf0⟩ := A0
          have hl1 := hl0.upd UG (fun k hk => by simp; rintro rfl; exact (hl0.own bkCOptions_len).ne_blk hg3 (by decide) hk)
          refine ⟨_, by (go_simp; first | done | rfl), kept_at k0 (by kernel_rfl) ⟨UU, own0, hl1, hf0⟩, next_post k1 (by kernel_rfl) ⟨UU, g1, hg1, hg2, hb4⟩, kept_at k2 (by kernel_rfl) ⟨UU, hv⟩, trivial⟩
        · refine res_run rfl ⟨_, rfl⟩ ?_
          intro a W ks hR hF hD
          obtain ⟨⟨l0, u0, A0⟩, ⟨l1, u1, A1⟩, ⟨l2, u2, A2⟩, -⟩ := hR
          have k0 := Nat.le_antisymm u0 l0
          rw [k0] at A0
          have k1 := Nat.le_antisymm u1 l1
          rw [k1] at A1
          have k2 := Nat.le_antisymm u2 l2
          rw [k2] at A2
          clear hF hD
          obtain ⟨hu, own1, hv1, hf1⟩ := A0
          exact ⟨a.eval (.tmp 72), W, by (go_simp; first | done | rfl), trivial, next_post k0 (by kernel_rfl) ⟨hu, rfl, own1, hv1, hf1⟩, kept_at k1 (by kernel_rfl) A1, kept_at k2 (by kernel_rfl) A2, trivial⟩
      intro vals W hv hA1 hA2 hA3
      have v1 : vals 1 = .slice ao l.length cap := hv 1 (by decide)
      clear hv
      obtain ⟨hu, hv5, own1, hv1, hf1⟩ := hA1
      obtain ⟨-, g1, hg1, hg2, hg3⟩ := hA2
      obtain ⟨-, hv0⟩ := hA3
      simp only [putAll, Act.put, Nat.zero_add, Nat.reduceAdd, hv5, hv0, hg2, v1, List.setIfInBounds_toArray, List.set_cons_zero, List.set_cons_succ]
      clear v1
      have HVM := Lib.hid hv1
      have HFM := Lib.hid hf1
      have HGB := Lib.hid hg3
      have HU := Lib.hid (show Upd [] wr W from hu)
      have hg1w := hg1
      generalize vals 2 = vm at *
      clear hv1 hf1 hg3 hu hv5 hv0 hg2 hwq0
      obtain ⟨x0, x1, x2, x3⟩ := hcx _ HU.out
      go_wp2_with fail
      refine (bkLentOptions p.opts _ _ (HP1.out.upd HU.out).rd (by have := HPL.out; omega)).mono ?_
      rintro e w9 ⟨vx, ownx, rfl, hvx, hfx, hu9⟩
      obtain ⟨gx, offx, capx, hvs, -⟩ := id hvx
      rw [← HNO.out] at hvs
      subst hvs
      have HVM := Lib.hid (HVM.out.updD hu9)
      have hG9 := HGB.out.upd hu9 (by simp)
      have HG9 := Lib.hid hG9
      have y0 := hG9.cell 0
      have y1 := hG9.cell 1
      have y2 := hG9.cell 2
      have y3 := hG9.cell 3
      have yf2 := hG9.frozen 2
      simp only [List.size_toArray, List.length_cons, List.length_nil, List.getElem?_toArray, List.getElem?_cons_zero, List.getElem?_cons_succ] at y0 y1 y2 y3
      have HVX9 := Lib.hid hvx
      have HU9 := Lib.hid (HU.out.trans hu9)
      clear hu9 hvx hfx hG9 HU HGB x0 x1 x2 x3
      go_wp2_with fail
      have gne : ∀ k ∈ ownx, k ∉ [g1] := fun k hk => by simp; rintro rfl; exact (HVX9.out.own bkCOptions_len).ne_blk HG9.out (by decide) hk
      have gnm : ∀ k ∈ own1, k ∉ [g1] := fun k hk => by simp; rintro rfl; exact (HVM.out.own bkCOptions_len).ne_blk HG9.out (by decide) hk
      have UG : Upd [g1] w9 (w9.setCell ⟨g1, 2, none⟩ (.slice (some ⟨gx, offx, none⟩) no capx)) := (Upd.refl [g1] _).setCell _ (.inl (by simp))
      have HU : Hid (Upd [] wr (w9.setCell ⟨g1, 2, none⟩ (.slice (some ⟨gx, offx, none⟩) no capx))) := HU9.out.setCell _ (.inr hg1w)
      have HVM := Lib.hid (HVM.out.upd UG gnm)
      have HVX := Lib.hid (HVX9.out.upd UG gne)
      have HGB : Hid (Blk (w9.setCell ⟨g1, 2, none⟩ (.slice (some ⟨gx, offx, none⟩) no capx)) g1 24 #[.int .i64 p.code, .int .i64 p.id, .slice (some ⟨gx, offx, none⟩) no capx, .string p.data]) := HG9.out.set_ 2 _
      clear UG gne gnm HU9 HVX9 HG9 y0 y1 y2 y3 yf2
      generalize w9.setCell ⟨g1, 2, none⟩ (.slice (some ⟨gx, offx, none⟩) no capx) = w10 at *
      obtain ⟨vx, hvx⟩ : ∃ x, x = Value.slice (some ⟨gx, offx, none⟩) no capx := ⟨_, rfl⟩
      rw [← hvx] at HGB HVX
      rw [← hvx]
      clear hvx
      refine (optsPut_any p vx _ (TgsAt.of_own (HVX.out.own bkCOptions_len)) HPS.out HPD.out).mono ?_
      rintro e w11 ⟨rfl, hu11⟩
      rw [HPP.out]
      have HVM := Lib.hid (HVM.out.updD hu11)
      have HVX := Lib.hid (HVX.out.updD hu11)
      have HGB := Lib.hid (HGB.out.upd hu11 (by simp))
      have HU := Lib.hid (HU.out.trans hu11)
      clear hu11
      obtain ⟨x0, x1, x2, x3⟩ := hcx _ HU.out
      go_wp2_with fail
      refine (rput_any p (.slice bo no cbp) _ (HP1.out.upd HU.out) HPS.out HPD.out).mono ?_
      rintro e w12 ⟨rfl, hu12⟩
      rw [HPP.out]
      clear x0 x1 x2 x3
      have HVM := Lib.hid (HVM.out.updD hu12)
      have HVX := Lib.hid (HVX.out.updD hu12)
      have HGB := Lib.hid (HGB.out.upd hu12 (by simp))
      have HU := Lib.hid (HU.out.trans hu12)
      clear hu12
      go_wp2_with fail
      refine (putOptions_any l vm _ (TgsAt.of_own (HVM.out.own bkCOptions_len)) HLS.out).mono ?_
      rintro e w13 ⟨rfl, hu13⟩
      rw [HQ.out]
      have HVM := Lib.hid (HVM.out.updD hu13)
      have HVX := Lib.hid (HVX.out.updD hu13)
      have HGB := Lib.hid (HGB.out.upd hu13 (by simp))
      have HU := Lib.hid (HU.out.trans hu13)
      clear hu13
      go_wp2_with fail
      refine (rputOptions_any l _ _ (HL1.out.upd HU.out) HLS.out).mono ?_
      rintro e w14 ⟨rfl, hu14⟩
      rw [HQ.out]
      have HVM := Lib.hid (HVM.out.updD hu14)
      have HVX := Lib.hid (HVX.out.updD hu14)
      have HGB := Lib.hid (HGB.out.upd hu14 (by simp))
      have HU := Lib.hid (HU.out.trans hu14)
      clear hu14
      go_wp2_with fail
      refine (optsGet_any b HBB.out _).mono ?_
      rintro e w15 ⟨v1, o1, rfl, ho15, hf15, hu15⟩
      rw [HG.out] at ho15
      rw [HG.out]
      simp only [Pk.val] at ho15 ⊢
      obtain ⟨a1, z1, hv1, -, -⟩ := ho15.shape
      subst hv1
      have HF1 := Lib.hid (fun y hy => Nat.le_trans HU.out.size (hf15 y hy))
      have hu15a : Upd [] w14 (w15.alloc (Obj.cells #[Value.int IntKind.i64 gc, Value.int IntKind.i64 gi, .slice a1 go.length z1, Value.string gd] 24)) := hu15.alloc _
      have HB1 : Hid (Blk (w15.alloc (Obj.cells #[Value.int IntKind.i64 gc, Value.int IntKind.i64 gi, .slice a1 go.length z1, Value.string gd] 24)) w15.heap.size 24 #[Value.int IntKind.i64 gc, Value.int IntKind.i64 gi, .slice a1 go.length z1, Value.string gd]) := Blk.new _ _ _
      have HO1 := Lib.hid (ho15.alloc (Obj.cells #[Value.int IntKind.i64 gc, Value.int IntKind.i64 gi, .slice a1 go.length z1, Value.string gd] 24))
      have HVM := Lib.hid (HVM.out.updD hu15a)
      have HVX := Lib.hid (HVX.out.updD hu15a)
      have HGB := Lib.hid (HGB.out.upd hu15a (by simp))
      have HU := Lib.hid (HU.out.trans hu15a)
      clear hu15 hu15a
      clear ho15 hf15
      go_wp2_with fail
      generalize w15.alloc (Obj.cells #[Value.int IntKind.i64 gc, Value.int IntKind.i64 gi, .slice a1 go.length z1, Value.string gd] 24) = w16 at *
      generalize w15.heap.size = b1 at *
      refine (rget_any b HBS.out _).mono ?_
      rintro e w17 ⟨v2, o2, rfl, ho17, hf17, hu17⟩
      rw [HG.out] at ho17
      rw [HG.out]
      simp only [Pk.val] at ho17 ⊢
      obtain ⟨a2, z2, hv2, -, -⟩ := ho17.shape
      subst hv2
      have hu17a : Upd [] w16 (w17.alloc (Obj.cells #[Value.int IntKind.i64 gc, Value.int IntKind.i64 gi, .slice a2 go.length z2, Value.string gd] 24)) := hu17.alloc _
      have HB2 : Hid (Blk (w17.alloc (Obj.cells #[Value.int IntKind.i64 gc, Value.int IntKind.i64 gi, .slice a2 go.length z2, Value.string gd] 24)) w17.heap.size 24 #[Value.int IntKind.i64 gc, Value.int IntKind.i64 gi, .slice a2 go.length z2, Value.string gd]) := Blk.new _ _ _
      have HO2 := Lib.hid (ho17.alloc (Obj.cells #[Value.int IntKind.i64 gc, Value.int IntKind.i64 gi, .slice a2 go.length z2, Value.string gd] 24))
      have HVM := Lib.hid (HVM.out.updD hu17a)
      have HVX := Lib.hid (HVX.out.updD hu17a)
      have HGB := Lib.hid (HGB.out.upd hu17a (by simp))
      have HB1 := Lib.hid (HB1.out.upd hu17a (by simp))
      have HO1 := Lib.hid (HO1.out.updD hu17a)
      have HU := Lib.hid (HU.out.trans hu17a)
      clear hu17 hu17a
      clear ho17 hf17
      have y0 := HGB.out.cell 0
      have y1 := HGB.out.cell 1
      have y2 := HGB.out.cell 2
      have y3 := HGB.out.cell 3
      simp only [List.size_toArray, List.length_cons, List.length_nil, List.getElem?_toArray, List.getElem?_cons_zero, List.getElem?_cons_succ] at y0 y1 y2 y3
      go_wp2_with fail
      generalize w17.alloc (Obj.cells #[Value.int IntKind.i64 gc, Value.int IntKind.i64 gi, .slice a2 go.length z2, Value.string gd] 24) = w18 at *
      generalize w17.heap.size = b2 at *
      clear y0 y1 y2 y3
      refine (putData_any p vx _ (TgsAt.of_own (HVX.out.own bkCOptions_len)) HDS.out).mono ?_
      rintro e w19 ⟨rfl, hu19⟩
      rw [HDD.out]
      have HVM := Lib.hid (HVM.out.updD hu19)
      have HVX := Lib.hid (HVX.out.updD hu19)
      have HGB := Lib.hid (HGB.out.upd hu19 (by simp))
      have HB1 := Lib.hid (HB1.out.upd hu19 (by simp))
      have HO1 := Lib.hid (HO1.out.updD hu19)
      have HB2 := Lib.hid (HB2.out.upd hu19 (by simp))
      have HO2 := Lib.hid (HO2.out.updD hu19)
      have HU := Lib.hid (HU.out.trans hu19)
      clear hu19
      obtain ⟨x0, x1, x2, x3⟩ := hcx _ HU.out
      go_wp2_with fail
      refine (rputData_any p (.slice bo no cbp) _ (HP1.out.upd HU.out) HDS.out).mono ?_
      rintro e w20 ⟨rfl, hu20⟩
      rw [HDD.out]
      clear x0 x1 x2 x3
      have HVM := Lib.hid (HVM.out.updD hu20)
      have HVX := Lib.hid (HVX.out.updD hu20)
      have HGB := Lib.hid (HGB.out.upd hu20 (by simp))
      have HB1 := Lib.hid (HB1.out.upd hu20 (by simp))
      have HO1 := Lib.hid (HO1.out.updD hu20)
      have HB2 := Lib.hid (HB2.out.upd hu20 (by simp))
      have HO2 := Lib.hid (HO2.out.updD hu20)
      have HU := Lib.hid (HU.out.trans hu20)
      clear hu20
      go_wp2_with fail
      refine (getData_any b HBS.out _).mono ?_
      rintro e w21 ⟨rfl, hu21⟩
      rw [HE.out]
      simp only [Pk.val]
      have hu21a : Upd [] w20 (w21.alloc (Obj.cells #[Value.int IntKind.i64 ec, Value.int IntKind.i64 ei, .slice none 0 0, Value.string ed] 24)) := hu21.alloc _
      have HB3 : Hid (Blk (w21.alloc (Obj.cells #[Value.int IntKind.i64 ec, Value.int IntKind.i64 ei, .slice none 0 0, Value.string ed] 24)) w21.heap.size 24 #[Value.int IntKind.i64 ec, Value.int IntKind.i64 ei, .slice none 0 0, Value.string ed]) := Blk.new _ _ _
      have HVM := Lib.hid (HVM.out.updD hu21a)
      have HVX := Lib.hid (HVX.out.updD hu21a)
      have HGB := Lib.hid (HGB.out.upd hu21a (by simp))
      have HB1 := Lib.hid (HB1.out.upd hu21a (by simp))
      have HO1 := Lib.hid (HO1.out.updD hu21a)
      have HB2 := Lib.hid (HB2.out.upd hu21a (by simp))
      have HO2 := Lib.hid (HO2.out.updD hu21a)
      have HU := Lib.hid (HU.out.trans hu21a)
      clear hu21 hu21a
      go_wp2_with fail
      generalize w21.alloc (Obj.cells #[Value.int IntKind.i64 ec, Value.int IntKind.i64 ei, .slice none 0 0, Value.string ed] 24) = w22 at *
      generalize w21.heap.size = b3 at *
      refine (rgetData_any b HBS.out _).mono ?_
      rintro e w23 ⟨rfl, hu23⟩
      rw [HE.out]
      simp only [Pk.val]
      have hu23a : Upd [] w22 (w23.alloc (Obj.cells #[Value.int IntKind.i64 ec, Value.int IntKind.i64 ei, .slice none 0 0, Value.string ed] 24)) := hu23.alloc _
      have HB4 : Hid (Blk (w23.alloc (Obj.cells #[Value.int IntKind.i64 ec, Value.int IntKind.i64 ei, .slice none 0 0, Value.string ed] 24)) w23.heap.size 24 #[Value.int IntKind.i64 ec, Value.int IntKind.i64 ei, .slice none 0 0, Value.string ed]) := Blk.new _ _ _
      have HVM := Lib.hid (HVM.out.updD hu23a)
      have HVX := Lib.hid (HVX.out.updD hu23a)
      have HGB := Lib.hid (HGB.out.upd hu23a (by simp))
      have HB1 := Lib.hid (HB1.out.upd hu23a (by simp))
      have HO1 := Lib.hid (HO1.out.updD hu23a)
      have HB2 := Lib.hid (HB2.out.upd hu23a (by simp))
      have HO2 := Lib.hid (HO2.out.updD hu23a)
      have HB3 := Lib.hid (HB3.out.upd hu23a (by simp))
      have HU := Lib.hid (HU.out.trans hu23a)
      clear hu23 hu23a
      have p0 := HB3.out.cell 0
      have p1 := HB3.out.cell 1
      have p2 := HB3.out.cell 2
      have p3 := HB3.out.cell 3
      have q0 := HB4.out.cell 0
      have q1 := HB4.out.cell 1
      have q2 := HB4.out.cell 2
      have q3 := HB4.out.cell 3
      simp only [List.size_toArray, List.length_cons, List.length_nil, List.getElem?_toArray, List.getElem?_cons_zero, List.getElem?_cons_succ] at p0 p1 p2 p3 q0 q1 q2 q3
      go_wp2_with fail
      have hz1 : Blk (((w23.alloc (Obj.cells #[Value.int IntKind.i64 ec, Value.int IntKind.i64 ei, .slice none 0 0, Value.string ed] 24)).alloc (Obj.cells #[Value.int IntKind.i64 ec, Value.int IntKind.i64 ei, .slice none 0 0, Value.string ed] 24)).alloc (Obj.cells #[Value.int IntKind.i64 ec, Value.int IntKind.i64 ei, .slice none 0 0, Value.string ed] 24)) (w23.heap.size + 1) 24 #[Value.int IntKind.i64 ec, Value.int IntKind.i64 ei, .slice none 0 0, Value.string ed] := by have h := (Blk.new (w23.alloc (Obj.cells #[Value.int IntKind.i64 ec, Value.int IntKind.i64 ei, .slice none 0 0, Value.string ed] 24)) 24 #[Value.int IntKind.i64 ec, Value.int IntKind.i64 ei, .slice none 0 0, Value.string ed]).alloc (Obj.cells #[Value.int IntKind.i64 ec, Value.int IntKind.i64 ei, .slice none 0 0, Value.string ed] 24); rw [World.size_alloc] at h; exact h
      have hz2 : Blk (((w23.alloc (Obj.cells #[Value.int IntKind.i64 ec, Value.int IntKind.i64 ei, .slice none 0 0, Value.string ed] 24)).alloc (Obj.cells #[Value.int IntKind.i64 ec, Value.int IntKind.i64 ei, .slice none 0 0, Value.string ed] 24)).alloc (Obj.cells #[Value.int IntKind.i64 ec, Value.int IntKind.i64 ei, .slice none 0 0, Value.string ed] 24)) (w23.heap.size + 1 + 1) 24 #[Value.int IntKind.i64 ec, Value.int IntKind.i64 ei, .slice none 0 0, Value.string ed] := by have h := Blk.new ((w23.alloc (Obj.cells #[Value.int IntKind.i64 ec, Value.int IntKind.i64 ei, .slice none 0 0, Value.string ed] 24)).alloc (Obj.cells #[Value.int IntKind.i64 ec, Value.int IntKind.i64 ei, .slice none 0 0, Value.string ed] 24)) 24 #[Value.int IntKind.i64 ec, Value.int IntKind.i64 ei, .slice none 0 0, Value.string ed]; rw [World.size_alloc, World.size_alloc] at h; exact h
      have hzn : Rd (((w23.alloc (Obj.cells #[Value.int IntKind.i64 ec, Value.int IntKind.i64 ei, .slice none 0 0, Value.string ed] 24)).alloc (Obj.cells #[Value.int IntKind.i64 ec, Value.int IntKind.i64 ei, .slice none 0 0, Value.string ed] 24)).alloc (Obj.cells #[Value.int IntKind.i64 ec, Value.int IntKind.i64 ei, .slice none 0 0, Value.string ed] 24)) 2 (.slice none 0 0) ([] : List Tg).length (([] : List Tg).flatMap bkCOptions) := (Own.nil _ 67 2).rdB (by simp)
      refine (samePackets_one (o := ([] : List Tg)) _ hz1 hz2 hzn hzn).mono ?_
      rintro e w25 ⟨rfl, hu25a⟩
      have hu25 := (((Upd.refl [] (w23.alloc (Obj.cells #[Value.int IntKind.i64 ec, Value.int IntKind.i64 ei, .slice none 0 0, Value.string ed] 24))).alloc (Obj.cells #[Value.int IntKind.i64 ec, Value.int IntKind.i64 ei, .slice none 0 0, Value.string ed] 24)).alloc (Obj.cells #[Value.int IntKind.i64 ec, Value.int IntKind.i64 ei, .slice none 0 0, Value.string ed] 24)).trans hu25a
      clear hz1 hz2 hzn hu25a p0 p1 p2 p3 q0 q1 q2 q3
      have HVM := Lib.hid (HVM.out.updD hu25)
      have HVX := Lib.hid (HVX.out.updD hu25)
      have HGB := Lib.hid (HGB.out.upd hu25 (by simp))
      have HB1 := Lib.hid (HB1.out.upd hu25 (by simp))
      have HO1 := Lib.hid (HO1.out.updD hu25)
      have HB2 := Lib.hid (HB2.out.upd hu25 (by simp))
      have HO2 := Lib.hid (HO2.out.updD hu25)
      have HU := Lib.hid (HU.out.trans hu25)
      clear hu25
      clear HB3 HB4
      go_wp2_with fail
      refine (getOptions_any b HBB.out _).mono ?_
      rintro e w26 ⟨v5, o5, rfl, ho26, hf26, hu26⟩
      rw [HY.out] at ho26
      rw [HY.out]
      simp only at ho26 ⊢
      have HO5 := Lib.hid ho26
      have HF5 := Lib.hid hf26
      have HU25 := Lib.hid HU.out
      have HO1Z := Lib.hid HO1.out.lt
      have HVM := Lib.hid (HVM.out.updD hu26)
      have HVX := Lib.hid (HVX.out.updD hu26)
      have HGB := Lib.hid (HGB.out.upd hu26 (by simp))
      have HB1 := Lib.hid (HB1.out.upd hu26 (by simp))
      have HO1 := Lib.hid (HO1.out.updD hu26)
      have HB2 := Lib.hid (HB2.out.upd hu26 (by simp))
      have HO2 := Lib.hid (HO2.out.updD hu26)
      have HU := Lib.hid (HU.out.trans hu26)
      clear hu26
      clear ho26 hf26
      go_wp2_with fail
      refine (rgetOptions_any b HBB.out _).mono ?_
      rintro e w27 ⟨v6, o6, rfl, ho27, hf27, hu27⟩
      rw [HY.out] at ho27
      rw [HY.out]
      simp only at ho27 ⊢
      have HO6 := Lib.hid ho27
      have HVM := Lib.hid (HVM.out.updD hu27)
      have HVX := Lib.hid (HVX.out.updD hu27)
      have HGB := Lib.hid (HGB.out.upd hu27 (by simp))
      have HB1 := Lib.hid (HB1.out.upd hu27 (by simp))
      have HO1 := Lib.hid (HO1.out.updD hu27)
      have HB2 := Lib.hid (HB2.out.upd hu27 (by simp))
      have HO2 := Lib.hid (HO2.out.updD hu27)
      have HO5 := Lib.hid (HO5.out.updD hu27)
      have HU := Lib.hid (HU.out.trans hu27)
      clear hu27
      clear ho27 hf27
      have p0 := HB1.out.cell 0
      have p1 := HB1.out.cell 1
      have p2 := HB1.out.cell 2
      have p3 := HB1.out.cell 3
      have q0 := HB2.out.cell 0
      have q1 := HB2.out.cell 1
      have q2 := HB2.out.cell 2
      have q3 := HB2.out.cell 3
      simp only [List.size_toArray, List.length_cons, List.length_nil, List.getElem?_toArray, List.getElem?_cons_zero, List.getElem?_cons_succ] at p0 p1 p2 p3 q0 q1 q2 q3
      have blt1 := HB1.out.lt
      have blt2 := HB2.out.lt
      go_wp2_with fail
      have hz1 : Blk ((w27.alloc (Obj.cells #[Value.int IntKind.i64 gc, Value.int IntKind.i64 gi, .slice a1 go.length z1, Value.string gd] 24)).alloc (Obj.cells #[Value.int IntKind.i64 gc, Value.int IntKind.i64 gi, .slice a2 go.length z2, Value.string gd] 24)) w27.heap.size 24 #[Value.int IntKind.i64 gc, Value.int IntKind.i64 gi, .slice a1 go.length z1, Value.string gd] := (Blk.new w27 24 #[Value.int IntKind.i64 gc, Value.int IntKind.i64 gi, .slice a1 go.length z1, Value.string gd]).alloc _
      have hz2 : Blk ((w27.alloc (Obj.cells #[Value.int IntKind.i64 gc, Value.int IntKind.i64 gi, .slice a1 go.length z1, Value.string gd] 24)).alloc (Obj.cells #[Value.int IntKind.i64 gc, Value.int IntKind.i64 gi, .slice a2 go.length z2, Value.string gd] 24)) (w27.heap.size + 1) 24 #[Value.int IntKind.i64 gc, Value.int IntKind.i64 gi, .slice a2 go.length z2, Value.string gd] := by have h := Blk.new (w27.alloc (Obj.cells #[Value.int IntKind.i64 gc, Value.int IntKind.i64 gi, .slice a1 go.length z1, Value.string gd] 24)) 24 #[Value.int IntKind.i64 gc, Value.int IntKind.i64 gi, .slice a2 go.length z2, Value.string gd]; rw [World.size_alloc] at h; exact h
      refine (samePackets_one (o := go) _ hz1 hz2 (((HO1.out.alloc _).alloc _).rdB (bkCOptions_one _)) (((HO2.out.alloc _).alloc _).rdB (bkCOptions_one _))).mono ?_
      rintro e w28 ⟨rfl, hu28a⟩
      have hu28 := (((Upd.refl [] w27).alloc (Obj.cells #[Value.int IntKind.i64 gc, Value.int IntKind.i64 gi, .slice a1 go.length z1, Value.string gd] 24)).alloc (Obj.cells #[Value.int IntKind.i64 gc, Value.int IntKind.i64 gi, .slice a2 go.length z2, Value.string gd] 24)).trans hu28a
      clear hz1 hz2 hu28a p0 p1 p2 p3 q0 q1 q2 q3 blt1 blt2
      have HVM := Lib.hid (HVM.out.updD hu28)
      have HVX := Lib.hid (HVX.out.updD hu28)
      have HGB := Lib.hid (HGB.out.upd hu28 (by simp))
      have HB1 := Lib.hid (HB1.out.upd hu28 (by simp))
      have HO1 := Lib.hid (HO1.out.updD hu28)
      have HB2 := Lib.hid (HB2.out.upd hu28 (by simp))
      have HO2 := Lib.hid (HO2.out.updD hu28)
      have HO5 := Lib.hid (HO5.out.updD hu28)
      have HO6 := Lib.hid (HO6.out.updD hu28)
      have HU := Lib.hid (HU.out.trans hu28)
      clear hu28
      clear HB2 HO2
      go_wp2_with fail
      refine (bkSameOptions Y0 _ _ _ (HO5.out.rdB (bkCOptions_one _)) (HO6.out.rdB (bkCOptions_one _))).mono ?_
      rintro e w29 ⟨rfl, x29, hx29⟩
      have hu29 : Upd [] w28 w29 := hx29 ▸ (Upd.refl _ _).drewN x29
      clear hx29
      have HVM := Lib.hid (HVM.out.updD hu29)
      have HVX := Lib.hid (HVX.out.updD hu29)
      have HGB := Lib.hid (HGB.out.upd hu29 (by simp))
      have HB1 := Lib.hid (HB1.out.upd hu29 (by simp))
      have HO1 := Lib.hid (HO1.out.updD hu29)
      have HO5 := Lib.hid (HO5.out.updD hu29)
      have HO6 := Lib.hid (HO6.out.updD hu29)
      have HU := Lib.hid (HU.out.trans hu29)
      clear hu29
      clear HO6
      go_wp2_with fail
      refine (optFind_any l vm kind _ (TgsAt.of_own (HVM.out.own bkCOptions_len))).mono ?_
      rintro e w30 ⟨rfl, hu30⟩
      rw [HF.out]
      have HVM := Lib.hid (HVM.out.updD hu30)
      have HVX := Lib.hid (HVX.out.updD hu30)
      have HGB := Lib.hid (HGB.out.upd hu30 (by simp))
      have HB1 := Lib.hid (HB1.out.upd hu30 (by simp))
      have HO1 := Lib.hid (HO1.out.updD hu30)
      have HO5 := Lib.hid (HO5.out.updD hu30)
      have HU := Lib.hid (HU.out.trans hu30)
      clear hu30
      go_wp2_with fail
      refine (rfind_any l _ kind _ (HL1.out.upd HU.out)).mono ?_
      rintro e w31 ⟨rfl, hu31⟩
      rw [HF.out]
      have HVM := Lib.hid (HVM.out.updD hu31)
      have HVX := Lib.hid (HVX.out.updD hu31)
      have HGB := Lib.hid (HGB.out.upd hu31 (by simp))
      have HB1 := Lib.hid (HB1.out.upd hu31 (by simp))
      have HO1 := Lib.hid (HO1.out.updD hu31)
      have HO5 := Lib.hid (HO5.out.updD hu31)
      have HU := Lib.hid (HU.out.trans hu31)
      clear hu31
      go_wp2_with fail
      refine (value_any b HBS.out _).mono ?_
      rintro e w32 ⟨rfl, hw32⟩
      rw [HV.out]
      have hu32 : Upd [] w31 w32 := hw32 ▸ Upd.refl _ _
      clear hw32
      have HVM := Lib.hid (HVM.out.updD hu32)
      have HVX := Lib.hid (HVX.out.updD hu32)
      have HGB := Lib.hid (HGB.out.upd hu32 (by simp))
      have HB1 := Lib.hid (HB1.out.upd hu32 (by simp))
      have HO1 := Lib.hid (HO1.out.updD hu32)
      have HO5 := Lib.hid (HO5.out.updD hu32)
      have HU := Lib.hid (HU.out.trans hu32)
      clear hu32
      go_wp2_with fail
      refine (rvalue_any b HBS.out _).mono ?_
      rintro e w33 ⟨rfl, hw33⟩
      rw [HV.out]
      have hu33 : Upd [] w32 w33 := hw33 ▸ Upd.refl _ _
      clear hw33
      have HVM := Lib.hid (HVM.out.updD hu33)
      have HVX := Lib.hid (HVX.out.updD hu33)
      have HGB := Lib.hid (HGB.out.upd hu33 (by simp))
      have HB1 := Lib.hid (HB1.out.upd hu33 (by simp))
      have HO1 := Lib.hid (HO1.out.updD hu33)
      have HO5 := Lib.hid (HO5.out.updD hu33)
      have HU := Lib.hid (HU.out.trans hu33)
      clear hu33
      have y0 := HGB.out.cell 0
      have y1 := HGB.out.cell 1
      have y2 := HGB.out.cell 2
      have y3 := HGB.out.cell 3
      simp only [List.size_toArray, List.length_cons, List.length_nil, List.getElem?_toArray, List.getElem?_cons_zero, List.getElem?_cons_succ] at y0 y1 y2 y3
      have HUB := Lib.hid HU.out
      have hcy : ∀ W, Upd [] w33 W → W.cell? ⟨B0, 2, none⟩ = some (.slice bo no cbp) ∧ W.cell? ⟨g1, 2, none⟩ = some vx := fun W h => ⟨(hcx W (HUB.out.trans h)).2.2.1, (h.cell (cell_lt y2) (by simp)).trans y2⟩
      clear y0 y1 y3
      go_wp2_with fail
      refine wp_region_chain [some (.string F0), some (.string F0), some (.bool false), some (.bool false), some (.bool F1), some (.bool F1), some (.bool false), some (.bool false), some (.bool false), some (.int .i64 V0), some (.int .i64 V0), some (.bool false), some (.bool false), some (.bool false), some (.bool V1), some (.bool V1), some (.bool false), some (.bool false), some (.bool false), some (vm), some (.pointer (some ⟨B0, 2, none⟩)), some (.slice bo no cbp), some (.bool sb), some (.slice ao l.length cap), some (.pointer (some ⟨B0, 2, none⟩)), some (.slice bo no cbp), some (.bool sb), some (.bool false), some (.bool false), some (.bool false), some (vm), some (.slice ao l.length cap), some (.bool true), some (.bool false), some (.bool false), some (.bool false), some (.pointer (some ⟨g1, 2, none⟩)), some (vx), some (.pointer (some ⟨B0, 2, none⟩)), some (.slice bo no cbp), some (.bool true), some (.bool false), some (.bool false)] [22] (updA w33) [(0, 0), (0, 0), (0, 0), (0, 0), (0, 0), (0, 0), (0, 0), (0, 0), (0, 0), (0, 0), (0, 0), (0, 0), (0, 0), (0, 0), (0, 0), (0, 0), (0, 0), (0, 0), (0, 0), (0, 0), (0, 0), (0, 0), (0, 0), (0, 1), (0, 1), (0, 1), (1, 1), (1, 1), (1, 1), (1, 1), (1, 1), (1, 1), (1, 1), (1, 1), (1, 1), (1, 1), (1, 1), (1, 1), (1, 1), (1, 1), (1, 1), (1, 1), (1, 1)] (by kernel_rfl) (by kernel_rfl) (by kernel_rfl) (by kernel_rfl) (by kernel_rfl) (by kernel_rfl) (((Upd.refl [] _).drew)) ?_ ?_
      · refine StepsC.cons ?_ (StepsC.cons ?_ (StepsC.cons ?_ (StepsC.cons ?_ (StepsC.cons ?_ (StepsC.cons ?_ (StepsC.cons ?_ (StepsC.cons ?_ (StepsC.cons ?_ (StepsC.cons ?_ (StepsC.cons ?_ (StepsC.cons ?_ (StepsC.cons ?_ (StepsC.cons ?_ (StepsC.cons ?_ (StepsC.cons ?_ (StepsC.cons ?_ (StepsC.cons ?_ (StepsC.cons ?_ (StepsC.cons ?_ (StepsC.cons ?_ (StepsC.cons ?_ (StepsC.cons ?_ (StepsC.cons ?_ (StepsC.cons ?_ (StepsC.cons ?_ (StepsC.cons ?_ (StepsC.cons ?_ (StepsC.cons ?_ (StepsC.cons ?_ (StepsC.cons ?_ (StepsC.cons ?_ (StepsC.cons ?_ (StepsC.cons ?_ (StepsC.cons ?_ (StepsC.cons ?_ (StepsC.cons ?_ (StepsC.cons ?_ (StepsC.cons ?_ (StepsC.cons ?_ (StepsC.cons ?_ (StepsC.cons ?_ (StepsC.cons ?_ StepsC.nil))))))))))))))))))))))))))))))))))))))))))
        · refine chain_is _ (.inl rfl) ⟨_, rfl⟩ (by kernel_rfl) rfl ?_
          intro a W kst l0 h0 A0 hF hD
          have k0 : kst = 0 := Nat.le_antisymm h0 l0
          subst k0
          clear l0 h0
          have e37 : a.tmps[37]?.getD undef = _ := (ev a 37).symm.trans (hF 37 (by kernel_rfl))
          clear hF hD
          have hu : Upd [] w33 W := A0
          go_simp
        · refine chain_is _ (.inl rfl) ⟨_, rfl⟩ (by kernel_rfl) rfl ?_
          intro a W kst l0 h0 A0 hF hD
          have k0 : kst = 0 := Nat.le_antisymm h0 l0
          subst k0
          clear l0 h0
          have e39 : a.tmps[39]?.getD undef = _ := (ev a 39).symm.trans (hF 39 (by kernel_rfl))
          clear hF hD
          have hu : Upd [] w33 W := A0
          go_simp
        · refine chain_is _ (.inl rfl) ⟨_, rfl⟩ (by kernel_rfl) rfl ?_
          intro a W kst l0 h0 A0 hF hD
          have k0 : kst = 0 := Nat.le_antisymm h0 l0
          subst k0
          clear l0 h0
          have e222 : a.tmps[222]?.getD undef = .string F0 := (ev a 222).symm.trans (hD _ (Array.mem_of_getElem? (i := 0) rfl) rfl)
          have e223 : a.tmps[223]?.getD undef = .string F0 := (ev a 223).symm.trans (hD _ (Array.mem_of_getElem? (i := 1) rfl) rfl)
          clear hF hD
          have hu : Upd [] w33 W := A0
          go_simp
        · refine chain_is _ (.inl rfl) ⟨_, rfl⟩ (by kernel_rfl) rfl ?_
          intro a W kst l0 h0 A0 hF hD
          have k0 : kst = 0 := Nat.le_antisymm h0 l0
          subst k0
          clear l0 h0
          have e224 : a.tmps[224]?.getD undef = .bool false := (ev a 224).symm.trans (hD _ (Array.mem_of_getElem? (i := 0) rfl) rfl)
          clear hF hD
          have hu : Upd [] w33 W := A0
          go_simp
        · refine chain_is _ (.inr ⟨_, _, _, rfl, Array.mem_of_getElem? (i := 0) rfl, rfl, rfl, fun _ h => h⟩) ⟨_, rfl⟩ (by kernel_rfl) rfl ?_
          intro a W kst l0 h0 A0 hF hD
          have k0 : kst = 0 := Nat.le_antisymm h0 l0
          subst k0
          clear l0 h0
          have e38 : a.tmps[38]?.getD undef = _ := (ev a 38).symm.trans (hF 38 (by kernel_rfl))
          clear hF hD
          have hu : Upd [] w33 W := A0
          go_simp
        · refine chain_is _ (.inr ⟨_, _, _, rfl, Array.mem_of_getElem? (i := 0) rfl, rfl, rfl, fun _ h => h⟩) ⟨_, rfl⟩ (by kernel_rfl) rfl ?_
          intro a W kst l0 h0 A0 hF hD
          have k0 : kst = 0 := Nat.le_antisymm h0 l0
          subst k0
          clear l0 h0
          have e40 : a.tmps[40]?.getD undef = _ := (ev a 40).symm.trans (hF 40 (by kernel_rfl))
          clear hF hD
          have hu : Upd [] w33 W := A0
          go_simp
        · refine chain_is _ (.inr ⟨_, _, _, rfl, Array.mem_of_getElem? (i := 2) rfl, rfl, rfl, fun _ h => h⟩) ⟨_, rfl⟩ (by kernel_rfl) rfl ?_
          intro a W kst l0 h0 A0 hF hD
          have k0 : kst = 0 := Nat.le_antisymm h0 l0
          subst k0
          clear l0 h0
          have e226 : a.tmps[226]?.getD undef = .bool F1 := (ev a 226).symm.trans (hD _ (Array.mem_of_getElem? (i := 0) rfl) rfl)
          have e227 : a.tmps[227]?.getD undef = .bool F1 := (ev a 227).symm.trans (hD _ (Array.mem_of_getElem? (i := 1) rfl) rfl)
          clear hF hD
          have hu : Upd [] w33 W := A0
          go_simp
        · refine chain_is _ (.inl rfl) ⟨_, rfl⟩ (by kernel_rfl) rfl ?_
          intro a W kst l0 h0 A0 hF hD
          have k0 : kst = 0 := Nat.le_antisymm h0 l0
          subst k0
          clear l0 h0
          have e225 : a.tmps[225]?.getD undef = .bool false := (ev a 225).symm.trans (hD _ (Array.mem_of_getElem? (i := 0) rfl) rfl)
          have e228 : a.tmps[228]?.getD undef = .bool false := (ev a 228).symm.trans (hD _ (Array.mem_of_getElem? (i := 1) rfl) rfl)
          clear hF hD
          have hu : Upd [] w33 W := A0
          go_simp
        · refine chain_is _ (.inl rfl) ⟨_, rfl⟩ (by kernel_rfl) rfl ?_
          intro a W kst l0 h0 A0 hF hD
          have k0 : kst = 0 := Nat.le_antisymm h0 l0
          subst k0
          clear l0 h0
          have e229 : a.tmps[229]?.getD undef = .bool false := (ev a 229).symm.trans (hD _ (Array.mem_of_getElem? (i := 0) rfl) rfl)
          clear hF hD
          have hu : Upd [] w33 W := A0
          go_simp
        · refine chain_is _ (.inr ⟨_, _, _, rfl, Array.mem_of_getElem? (i := 0) rfl, rfl, rfl, fun _ h => h⟩) ⟨_, rfl⟩ (by kernel_rfl) rfl ?_
          intro a W kst l0 h0 A0 hF hD
          have k0 : kst = 0 := Nat.le_antisymm h0 l0
          subst k0
          clear l0 h0
          have e41 : a.tmps[41]?.getD undef = _ := (ev a 41).symm.trans (hF 41 (by kernel_rfl))
          clear hF hD
          have hu : Upd [] w33 W := A0
          go_simp
        · refine chain_is _ (.inr ⟨_, _, _, rfl, Array.mem_of_getElem? (i := 0) rfl, rfl, rfl, fun _ h => h⟩) ⟨_, rfl⟩ (by kernel_rfl) rfl ?_
          intro a W kst l0 h0 A0 hF hD
          have k0 : kst = 0 := Nat.le_antisymm h0 l0
          subst k0
          clear l0 h0
          have e43 : a.tmps[43]?.getD undef = _ := (ev a 43).symm.trans (hF 43 (by kernel_rfl))
          clear hF hD
          have hu : Upd [] w33 W := A0
          go_simp
        · refine chain_is _ (.inr ⟨_, _, _, rfl, Array.mem_of_getElem? (i := 2) rfl, rfl, rfl, fun _ h => h⟩) ⟨_, rfl⟩ (by kernel_rfl) rfl ?_
          intro a W kst l0 h0 A0 hF hD
          have k0 : kst = 0 := Nat.le_antisymm h0 l0
          subst k0
          clear l0 h0
          have e231 : a.tmps[231]?.getD undef = .int .i64 V0 := (ev a 231).symm.trans (hD _ (Array.mem_of_getElem? (i := 0) rfl) rfl)
          have e232 : a.tmps[232]?.getD undef = .int .i64 V0 := (ev a 232).symm.trans (hD _ (Array.mem_of_getElem? (i := 1) rfl) rfl)
          clear hF hD
          have hu : Upd [] w33 W := A0
          go_simp
        · refine chain_is _ (.inl rfl) ⟨_, rfl⟩ (by kernel_rfl) rfl ?_
          intro a W kst l0 h0 A0 hF hD
          have k0 : kst = 0 := Nat.le_antisymm h0 l0
          subst k0
          clear l0 h0
          have e230 : a.tmps[230]?.getD undef = .bool false := (ev a 230).symm.trans (hD _ (Array.mem_of_getElem? (i := 0) rfl) rfl)
          have e233 : a.tmps[233]?.getD undef = .bool false := (ev a 233).symm.trans (hD _ (Array.mem_of_getElem? (i := 1) rfl) rfl)
          clear hF hD
          have hu : Upd [] w33 W := A0
          go_simp
        · refine chain_is _ (.inl rfl) ⟨_, rfl⟩ (by kernel_rfl) rfl ?_
          intro a W kst l0 h0 A0 hF hD
          have k0 : kst = 0 := Nat.le_antisymm h0 l0
          subst k0
          clear l0 h0
          have e234 : a.tmps[234]?.getD undef = .bool false := (ev a 234).symm.trans (hD _ (Array.mem_of_getElem? (i := 0) rfl) rfl)
          clear hF hD
          have hu : Upd [] w33 W := A0
          go_simp
        · refine chain_is _ (.inr ⟨_, _, _, rfl, Array.mem_of_getElem? (i := 0) rfl, rfl, rfl, fun _ h => h⟩) ⟨_, rfl⟩ (by kernel_rfl) rfl ?_
          intro a W kst l0 h0 A0 hF hD
          have k0 : kst = 0 := Nat.le_antisymm h0 l0
          subst k0
          clear l0 h0
          have e42 : a.tmps[42]?.getD undef = _ := (ev a 42).symm.trans (hF 42 (by kernel_rfl))
          clear hF hD
          have hu : Upd [] w33 W := A0
          go_simp
        · refine chain_is _ (.inr ⟨_, _, _, rfl, Array.mem_of_getElem? (i := 0) rfl, rfl, rfl, fun _ h => h⟩) ⟨_, rfl⟩ (by kernel_rfl) rfl ?_
          intro a W kst l0 h0 A0 hF hD
          have k0 : kst = 0 := Nat.le_antisymm h0 l0
          subst k0
          clear l0 h0
          have e44 : a.tmps[44]?.getD undef = _ := (ev a 44).symm.trans (hF 44 (by kernel_rfl))
          clear hF hD
          have hu : Upd [] w33 W := A0
          go_simp
        · refine chain_is _ (.inr ⟨_, _, _, rfl, Array.mem_of_getElem? (i := 2) rfl, rfl, rfl, fun _ h => h⟩) ⟨_, rfl⟩ (by kernel_rfl) rfl ?_
          intro a W kst l0 h0 A0 hF hD
          have k0 : kst = 0 := Nat.le_antisymm h0 l0
          subst k0
          clear l0 h0
          have e236 : a.tmps[236]?.getD undef = .bool V1 := (ev a 236).symm.trans (hD _ (Array.mem_of_getElem? (i := 0) rfl) rfl)
          have e237 : a.tmps[237]?.getD undef = .bool V1 := (ev a 237).symm.trans (hD _ (Array.mem_of_getElem? (i := 1) rfl) rfl)
          clear hF hD
          have hu : Upd [] w33 W := A0
          go_simp
        · refine chain_is _ (.inl rfl) ⟨_, rfl⟩ (by kernel_rfl) rfl ?_
          intro a W kst l0 h0 A0 hF hD
          have k0 : kst = 0 := Nat.le_antisymm h0 l0
          subst k0
          clear l0 h0
          have e235 : a.tmps[235]?.getD undef = .bool false := (ev a 235).symm.trans (hD _ (Array.mem_of_getElem? (i := 0) rfl) rfl)
          have e238 : a.tmps[238]?.getD undef = .bool false := (ev a 238).symm.trans (hD _ (Array.mem_of_getElem? (i := 1) rfl) rfl)
          clear hF hD
          have hu : Upd [] w33 W := A0
          go_simp
        · refine chain_is _ (.inl rfl) ⟨_, rfl⟩ (by kernel_rfl) rfl ?_
          intro a W kst l0 h0 A0 hF hD
          have k0 : kst = 0 := Nat.le_antisymm h0 l0
          subst k0
          clear l0 h0
          have e239 : a.tmps[239]?.getD undef = .bool false := (ev a 239).symm.trans (hD _ (Array.mem_of_getElem? (i := 0) rfl) rfl)
          clear hF hD
          have hu : Upd [] w33 W := A0
          go_simp
        · refine chain_is _ (.inr ⟨_, _, _, rfl, Array.mem_of_getElem? (i := 0) rfl, rfl, rfl, fun _ h => h⟩) ⟨_, rfl⟩ (by kernel_rfl) rfl ?_
          intro a W kst l0 h0 A0 hF hD
          have k0 : kst = 0 := Nat.le_antisymm h0 l0
          subst k0
          clear l0 h0
          have e12 : a.tmps[12]?.getD undef = _ := (ev a 12).symm.trans (hF 12 (by kernel_rfl))
          clear hF hD
          have hu : Upd [] w33 W := A0
          go_simp
        · refine chain_is _ (.inr ⟨_, _, _, rfl, Array.mem_of_getElem? (i := 0) rfl, rfl, rfl, fun _ h => h⟩) ⟨_, rfl⟩ (by kernel_rfl) rfl ?_
          intro a W kst l0 h0 A0 hF hD
          have k0 : kst = 0 := Nat.le_antisymm h0 l0
          subst k0
          clear l0 h0
          have e4 : a.tmps[4]?.getD undef = _ := (ev a 4).symm.trans (hF 4 (by kernel_rfl))
          clear hF hD
          have hu : Upd [] w33 W := A0
          go_simp
        · refine chain_is _ (.inr ⟨_, _, _, rfl, Array.mem_of_getElem? (i := 1) rfl, rfl, rfl, fun _ h => h⟩) ⟨_, rfl⟩ (by kernel_rfl) rfl ?_
          intro a W kst l0 h0 A0 hF hD
          have k0 : kst = 0 := Nat.le_antisymm h0 l0
          subst k0
          clear l0 h0
          have e242 : a.tmps[242]?.getD undef = .pointer (some ⟨B0, 2, none⟩) := (ev a 242).symm.trans (hD _ (Array.mem_of_getElem? (i := 0) rfl) rfl)
          clear hF hD
          have hu : Upd [] w33 W := A0
          have := hcy W hu
          go_simp
        · refine chain_call (.inr ⟨_, _, _, rfl, Array.mem_of_getElem? (i := 2) rfl, rfl, rfl, fun _ h => h⟩) ⟨_, rfl⟩ (by kernel_rfl) ?_
          intro a W kst l0 h0 A0 hF hD
          have k0 : kst = 0 := Nat.le_antisymm h0 l0
          subst k0
          clear l0 h0
          have e241 : a.tmps[241]?.getD undef = vm := (ev a 241).symm.trans (hD _ (Array.mem_of_getElem? (i := 0) rfl) rfl)
          have e243 : a.tmps[243]?.getD undef = .slice bo no cbp := (ev a 243).symm.trans (hD _ (Array.mem_of_getElem? (i := 1) rfl) rfl)
          clear hF hD
          have hu : Upd [] w33 W := A0
          refine ⟨_, _, by (go_simp; first | done | rfl | exact ⟨rfl, rfl⟩), ?_⟩
          refine (same_any l p.opts _ _ _ (TgsAt.of_own ((HVM.out.updD hu).own bkCOptions_len)) (HP1.out.upd (HUB.out.trans hu))).mono ?_
          rintro e w3 ⟨rfl, hu2⟩
          rw [← HSB.out]
          exact ⟨_, rfl, rfl, hu.trans hu2⟩
        · refine chain_is _ (.inr ⟨_, _, _, rfl, Array.mem_of_getElem? (i := 0) rfl, rfl, rfl, fun _ h => h⟩) ⟨_, rfl⟩ (by kernel_rfl) rfl ?_
          intro a W kst l0 h0 A0 hF hD
          have e1 : a.tmps[1]?.getD undef = _ := (ev a 1).symm.trans (hF 1 (by kernel_rfl))
          clear hF hD
          have hu : Upd [] w33 W := A0
          go_simp
        · refine chain_is _ (.inr ⟨_, _, _, rfl, Array.mem_of_getElem? (i := 0) rfl, rfl, rfl, fun _ h => h⟩) ⟨_, rfl⟩ (by kernel_rfl) rfl ?_
          intro a W kst l0 h0 A0 hF hD
          have e4 : a.tmps[4]?.getD undef = _ := (ev a 4).symm.trans (hF 4 (by kernel_rfl))
          clear hF hD
          have hu : Upd [] w33 W := A0
          go_simp
        · refine chain_is _ (.inr ⟨_, _, _, rfl, Array.mem_of_getElem? (i := 1) rfl, rfl, rfl, fun _ h => h⟩) ⟨_, rfl⟩ (by kernel_rfl) rfl ?_
          intro a W kst l0 h0 A0 hF hD
          have e246 : a.tmps[246]?.getD undef = .pointer (some ⟨B0, 2, none⟩) := (ev a 246).symm.trans (hD _ (Array.mem_of_getElem? (i := 0) rfl) rfl)
          clear hF hD
          have hu : Upd [] w33 W := A0
          have := hcy W hu
          go_simp
        · refine chain_beside _ (.inr ⟨_, _, _, rfl, Array.mem_of_getElem? (i := 3) rfl, rfl, rfl, fun _ h => h⟩) ⟨_, rfl⟩ (by kernel_rfl) rfl ?_
          intro a W kst l0 h0 A0 hF hD
          have k0 : kst = 1 := Nat.le_antisymm h0 l0
          subst k0
          clear l0 h0
          have e245 : a.tmps[245]?.getD undef = .slice ao l.length cap := (ev a 245).symm.trans (hD _ (Array.mem_of_getElem? (i := 0) rfl) rfl)
          have e247 : a.tmps[247]?.getD undef = .slice bo no cbp := (ev a 247).symm.trans (hD _ (Array.mem_of_getElem? (i := 1) rfl) rfl)
          clear hF hD
          have hu : Upd [] w33 W := A0
          refine ⟨_, _, by (go_simp; first | done | rfl | exact ⟨rfl, rfl⟩), ?_⟩
          refine (rsame_any l p.opts _ _ _ (HL1.out.upd (HUB.out.trans hu)) (HP1.out.upd (HUB.out.trans hu))).mono ?_
          rintro e w3 ⟨rfl, hu2⟩
          rw [← HSB.out]
          exact ⟨rfl, hu.trans hu2⟩
        · refine chain_is _ (.inr ⟨_, _, _, rfl, Array.mem_of_getElem? (i := 2) rfl, rfl, rfl, fun _ h => h⟩) ⟨_, rfl⟩ (by kernel_rfl) rfl ?_
          intro a W kst l0 h0 A0 hF hD
          have k0 : kst = 1 := Nat.le_antisymm h0 l0
          subst k0
          clear l0 h0
          have e244 : a.tmps[244]?.getD undef = .bool sb := (ev a 244).symm.trans (hD _ (Array.mem_of_getElem? (i := 0) rfl) rfl)
          have e248 : a.tmps[248]?.getD undef = .bool sb := (ev a 248).symm.trans (hD _ (Array.mem_of_getElem? (i := 1) rfl) rfl)
          clear hF hD
          have hu : Upd [] w33 W := A0
          go_simp
        · refine chain_is _ (.inl rfl) ⟨_, rfl⟩ (by kernel_rfl) rfl ?_
          intro a W kst l0 h0 A0 hF hD
          have k0 : kst = 1 := Nat.le_antisymm h0 l0
          subst k0
          clear l0 h0
          have e240 : a.tmps[240]?.getD undef = .bool false := (ev a 240).symm.trans (hD _ (Array.mem_of_getElem? (i := 0) rfl) rfl)
          have e249 : a.tmps[249]?.getD undef = .bool false := (ev a 249).symm.trans (hD _ (Array.mem_of_getElem? (i := 1) rfl) rfl)
          clear hF hD
          have hu : Upd [] w33 W := A0
          go_simp
        · refine chain_is _ (.inl rfl) ⟨_, rfl⟩ (by kernel_rfl) rfl ?_
          intro a W kst l0 h0 A0 hF hD
          have k0 : kst = 1 := Nat.le_antisymm h0 l0
          subst k0
          clear l0 h0
          have e250 : a.tmps[250]?.getD undef = .bool false := (ev a 250).symm.trans (hD _ (Array.mem_of_getElem? (i := 0) rfl) rfl)
          clear hF hD
          have hu : Upd [] w33 W := A0
          go_simp
        · refine chain_is _ (.inr ⟨_, _, _, rfl, Array.mem_of_getElem? (i := 0) rfl, rfl, rfl, fun _ h => h⟩) ⟨_, rfl⟩ (by kernel_rfl) rfl ?_
          intro a W kst l0 h0 A0 hF hD
          have k0 : kst = 1 := Nat.le_antisymm h0 l0
          subst k0
          clear l0 h0
          have e12 : a.tmps[12]?.getD undef = _ := (ev a 12).symm.trans (hF 12 (by kernel_rfl))
          clear hF hD
          have hu : Upd [] w33 W := A0
          go_simp
        · refine chain_is _ (.inr ⟨_, _, _, rfl, Array.mem_of_getElem? (i := 0) rfl, rfl, rfl, fun _ h => h⟩) ⟨_, rfl⟩ (by kernel_rfl) rfl ?_
          intro a W kst l0 h0 A0 hF hD
          have k0 : kst = 1 := Nat.le_antisymm h0 l0
          subst k0
          clear l0 h0
          have e1 : a.tmps[1]?.getD undef = _ := (ev a 1).symm.trans (hF 1 (by kernel_rfl))
          clear hF hD
          have hu : Upd [] w33 W := A0
          go_simp
        · refine chain_beside _ (.inr ⟨_, _, _, rfl, Array.mem_of_getElem? (i := 2) rfl, rfl, rfl, fun _ h => h⟩) ⟨_, rfl⟩ (by kernel_rfl) rfl ?_
          intro a W kst l0 h0 A0 hF hD
          have k0 : kst = 1 := Nat.le_antisymm h0 l0
          subst k0
          clear l0 h0
          have e252 : a.tmps[252]?.getD undef = vm := (ev a 252).symm.trans (hD _ (Array.mem_of_getElem? (i := 0) rfl) rfl)
          have e253 : a.tmps[253]?.getD undef = .slice ao l.length cap := (ev a 253).symm.trans (hD _ (Array.mem_of_getElem? (i := 1) rfl) rfl)
          clear hF hD
          have hu : Upd [] w33 W := A0
          refine ⟨_, _, by (go_simp; first | done | rfl | exact ⟨rfl, rfl⟩), ?_⟩
          refine (bkStaysOptions l vm _ own1 _ (HVM.out.updD hu) (HL1.out.upd (HUB.out.trans hu)).rd).mono ?_
          rintro e w3 ⟨rfl, hu2⟩
          exact ⟨rfl, hu.trans hu2⟩
        · refine chain_is _ (.inr ⟨_, _, _, rfl, Array.mem_of_getElem? (i := 1) rfl, rfl, rfl, fun _ h => h⟩) ⟨_, rfl⟩ (by kernel_rfl) rfl ?_
          intro a W kst l0 h0 A0 hF hD
          have k0 : kst = 1 := Nat.le_antisymm h0 l0
          subst k0
          clear l0 h0
          have e254 : a.tmps[254]?.getD undef = .bool true := (ev a 254).symm.trans (hD _ (Array.mem_of_getElem? (i := 0) rfl) rfl)
          clear hF hD
          have hu : Upd [] w33 W := A0
          go_simp
        · refine chain_is _ (.inl rfl) ⟨_, rfl⟩ (by kernel_rfl) rfl ?_
          intro a W kst l0 h0 A0 hF hD
          have k0 : kst = 1 := Nat.le_antisymm h0 l0
          subst k0
          clear l0 h0
          have e251 : a.tmps[251]?.getD undef = .bool false := (ev a 251).symm.trans (hD _ (Array.mem_of_getElem? (i := 0) rfl) rfl)
          have e255 : a.tmps[255]?.getD undef = .bool false := (ev a 255).symm.trans (hD _ (Array.mem_of_getElem? (i := 1) rfl) rfl)
          clear hF hD
          have hu : Upd [] w33 W := A0
          go_simp
        · refine chain_is _ (.inl rfl) ⟨_, rfl⟩ (by kernel_rfl) rfl ?_
          intro a W kst l0 h0 A0 hF hD
          have k0 : kst = 1 := Nat.le_antisymm h0 l0
          subst k0
          clear l0 h0
          have e256 : a.tmps[256]?.getD undef = .bool false := (ev a 256).symm.trans (hD _ (Array.mem_of_getElem? (i := 0) rfl) rfl)
          clear hF hD
          have hu : Upd [] w33 W := A0
          go_simp
        · refine chain_is _ (.inr ⟨_, _, _, rfl, Array.mem_of_getElem? (i := 0) rfl, rfl, rfl, fun _ h => h⟩) ⟨_, rfl⟩ (by kernel_rfl) rfl ?_
          intro a W kst l0 h0 A0 hF hD
          have k0 : kst = 1 := Nat.le_antisymm h0 l0
          subst k0
          clear l0 h0
          have e11 : a.tmps[11]?.getD undef = _ := (ev a 11).symm.trans (hF 11 (by kernel_rfl))
          clear hF hD
          have hu : Upd [] w33 W := A0
          go_simp
        · refine chain_is _ (.inr ⟨_, _, _, rfl, Array.mem_of_getElem? (i := 1) rfl, rfl, rfl, fun _ h => h⟩) ⟨_, rfl⟩ (by kernel_rfl) rfl ?_
          intro a W kst l0 h0 A0 hF hD
          have k0 : kst = 1 := Nat.le_antisymm h0 l0
          subst k0
          clear l0 h0
          have e258 : a.tmps[258]?.getD undef = .pointer (some ⟨g1, 2, none⟩) := (ev a 258).symm.trans (hD _ (Array.mem_of_getElem? (i := 0) rfl) rfl)
          clear hF hD
          have hu : Upd [] w33 W := A0
          have := hcy W hu
          go_simp
        · refine chain_is _ (.inr ⟨_, _, _, rfl, Array.mem_of_getElem? (i := 0) rfl, rfl, rfl, fun _ h => h⟩) ⟨_, rfl⟩ (by kernel_rfl) rfl ?_
          intro a W kst l0 h0 A0 hF hD
          have k0 : kst = 1 := Nat.le_antisymm h0 l0
          subst k0
          clear l0 h0
          have e4 : a.tmps[4]?.getD undef = _ := (ev a 4).symm.trans (hF 4 (by kernel_rfl))
          clear hF hD
          have hu : Upd [] w33 W := A0
          go_simp
        · refine chain_is _ (.inr ⟨_, _, _, rfl, Array.mem_of_getElem? (i := 1) rfl, rfl, rfl, fun _ h => h⟩) ⟨_, rfl⟩ (by kernel_rfl) rfl ?_
          intro a W kst l0 h0 A0 hF hD
          have k0 : kst = 1 := Nat.le_antisymm h0 l0
          subst k0
          clear l0 h0
          have e260 : a.tmps[260]?.getD undef = .pointer (some ⟨B0, 2, none⟩) := (ev a 260).symm.trans (hD _ (Array.mem_of_getElem? (i := 0) rfl) rfl)
          clear hF hD
          have hu : Upd [] w33 W := A0
          have := hcy W hu
          go_simp
        · refine chain_beside _ (.inr ⟨_, _, _, rfl, Array.mem_of_getElem? (i := 2) rfl, rfl, rfl, fun _ h => h⟩) ⟨_, rfl⟩ (by kernel_rfl) rfl ?_
          intro a W kst l0 h0 A0 hF hD
          have k0 : kst = 1 := Nat.le_antisymm h0 l0
          subst k0
          clear l0 h0
          have e259 : a.tmps[259]?.getD undef = vx := (ev a 259).symm.trans (hD _ (Array.mem_of_getElem? (i := 0) rfl) rfl)
          have e261 : a.tmps[261]?.getD undef = .slice bo no cbp := (ev a 261).symm.trans (hD _ (Array.mem_of_getElem? (i := 1) rfl) rfl)
          clear hF hD
          have hu : Upd [] w33 W := A0
          refine ⟨_, _, by (go_simp; first | done | rfl | exact ⟨rfl, rfl⟩), ?_⟩
          refine (bkStaysOptions p.opts vx _ ownx _ (HVX.out.updD hu) (HP1.out.upd (HUB.out.trans hu)).rd).mono ?_
          rintro e w3 ⟨rfl, hu2⟩
          exact ⟨rfl, hu.trans hu2⟩
        · refine chain_is _ (.inr ⟨_, _, _, rfl, Array.mem_of_getElem? (i := 1) rfl, rfl, rfl, fun _ h => h⟩) ⟨_, rfl⟩ (by kernel_rfl) rfl ?_
          intro a W kst l0 h0 A0 hF hD
          have k0 : kst = 1 := Nat.le_antisymm h0 l0
          subst k0
          clear l0 h0
          have e262 : a.tmps[262]?.getD undef = .bool true := (ev a 262).symm.trans (hD _ (Array.mem_of_getElem? (i := 0) rfl) rfl)
          clear hF hD
          have hu : Upd [] w33 W := A0
          go_simp
        · refine chain_is _ (.inl rfl) ⟨_, rfl⟩ (by kernel_rfl) rfl ?_
          intro a W kst l0 h0 A0 hF hD
          have k0 : kst = 1 := Nat.le_antisymm h0 l0
          subst k0
          clear l0 h0
          have e257 : a.tmps[257]?.getD undef = .bool false := (ev a 257).symm.trans (hD _ (Array.mem_of_getElem? (i := 0) rfl) rfl)
          have e263 : a.tmps[263]?.getD undef = .bool false := (ev a 263).symm.trans (hD _ (Array.mem_of_getElem? (i := 1) rfl) rfl)
          clear hF hD
          have hu : Upd [] w33 W := A0
          go_simp
      intro vals W hv hA
      have v0 : vals 0 = .string F0 := hv 0 (by decide)
      have v1 : vals 1 = .string F0 := hv 1 (by decide)
      have v2 : vals 2 = .bool false := hv 2 (by decide)
      have v3 : vals 3 = .bool false := hv 3 (by decide)
      have v4 : vals 4 = .bool F1 := hv 4 (by decide)
      have v5 : vals 5 = .bool F1 := hv 5 (by decide)
      have v6 : vals 6 = .bool false := hv 6 (by decide)
      have v7 : vals 7 = .bool false := hv 7 (by decide)
      have v8 : vals 8 = .bool false := hv 8 (by decide)
      have v9 : vals 9 = .int .i64 V0 := hv 9 (by decide)
      have v10 : vals 10 = .int .i64 V0 := hv 10 (by decide)
      have v11 : vals 11 = .bool false := hv 11 (by decide)
      have v12 : vals 12 = .bool false := hv 12 (by decide)
      have v13 : vals 13 = .bool false := hv 13 (by decide)
      have v14 : vals 14 = .bool V1 := hv 14 (by decide)
      have v15 : vals 15 = .bool V1 := hv 15 (by decide)
      have v16 : vals 16 = .bool false := hv 16 (by decide)
      have v17 : vals 17 = .bool false := hv 17 (by decide)
      have v18 : vals 18 = .bool false := hv 18 (by decide)
      have v19 : vals 19 = vm := hv 19 (by decide)
      have v20 : vals 20 = .pointer (some ⟨B0, 2, none⟩) := hv 20 (by decide)
      have v21 : vals 21 = .slice bo no cbp := hv 21 (by decide)
      have v22 : vals 22 = .bool sb := hv 22 (by decide)
      have v23 : vals 23 = .slice ao l.length cap := hv 23 (by decide)
      have v24 : vals 24 = .pointer (some ⟨B0, 2, none⟩) := hv 24 (by decide)
      have v25 : vals 25 = .slice bo no cbp := hv 25 (by decide)
      have v26 : vals 26 = .bool sb := hv 26 (by decide)
      have v27 : vals 27 = .bool false := hv 27 (by decide)
      have v28 : vals 28 = .bool false := hv 28 (by decide)
      have v29 : vals 29 = .bool false := hv 29 (by decide)
      have v30 : vals 30 = vm := hv 30 (by decide)
      have v31 : vals 31 = .slice ao l.length cap := hv 31 (by decide)
      have v32 : vals 32 = .bool true := hv 32 (by decide)
      have v33 : vals 33 = .bool false := hv 33 (by decide)
      have v34 : vals 34 = .bool false := hv 34 (by decide)
      have v35 : vals 35 = .bool false := hv 35 (by decide)
      have v36 : vals 36 = .pointer (some ⟨g1, 2, none⟩) := hv 36 (by decide)
      have v37 : vals 37 = vx := hv 37 (by decide)
      have v38 : vals 38 = .pointer (some ⟨B0, 2, none⟩) := hv 38 (by decide)
      have v39 : vals 39 = .slice bo no cbp := hv 39 (by decide)
      have v40 : vals 40 = .bool true := hv 40 (by decide)
      have v41 : vals 41 = .bool false := hv 41 (by decide)
      have v42 : vals 42 = .bool false := hv 42 (by decide)
      clear hv
      have hu : Upd [] w33 W := hA
      simp only [putAll, Act.put, Nat.zero_add, Nat.reduceAdd, v0, v1, v2, v3, v4, v5, v6, v7, v8, v9, v10, v11, v12, v13, v14, v15, v16, v17, v18, v19, v20, v21, v22, v23, v24, v25, v26, v27, v28, v29, v30, v31, v32, v33, v34, v35, v36, v37, v38, v39, v40, v41, v42, List.setIfInBounds_toArray, List.set_cons_zero, List.set_cons_succ]
      clear v0 v1 v2 v3 v4 v5 v6 v7 v8 v9 v10 v11 v12 v13 v14 v15 v16 v17 v18 v19 v20 v21 v22 v23 v24 v25 v26 v27 v28 v29 v30 v31 v32 v33 v34 v35 v36 v37 v38 v39 v40 v41 v42
      have HB1 := Lib.hid (HB1.out.upd hu (by simp))
      have HO1 := Lib.hid (HO1.out.updD hu)
      have HO5 := Lib.hid (HO5.out.updD hu)
      have HU := Lib.hid (HU.out.trans hu)
      have p2 := HB1.out.cell 2
      simp only [List.size_toArray, List.length_cons, List.length_nil, List.getElem?_toArray, List.getElem?_cons_zero, List.getElem?_cons_succ] at p2
      clear hu hcy y2 HVM HVX HGB
      go_wp2_with fail
      refine ((HBK.out.upd HU.out).addOptions ⟨.slice a1 go.length z1, go, o1⟩ HO1.out (by have := HGL.out; show go.length ≤ _; omega) (fun y hy => Nat.le_trans HBK.out.ups.size (HF1.out y hy)) (fun d hd y hy hy2 => by have h1 := HBK.out.ltOptions d hd y hy; have h2 := HF1.out y hy2; omega)).mono ?_
      rintro e w34 ⟨rfl, hb34, hu34⟩
      have HB34 := Lib.hid hb34
      have HO5 := Lib.hid (HO5.out.updT hu34 (by decide))
      clear hb34 hu34 p2
      go_wp2_with fail
      refine (HB34.out.addOptions ⟨v5, Y0, o5⟩ HO5.out (by have := HYL.out; show Y0.length ≤ _; omega) (fun y hy => Nat.le_trans (HBK.out.ups.trans HU25.out).size (HF5.out y hy)) (fun d hd y hy hy2 => ?_)).mono ?_
      · have h2 := HF5.out y hy2
        have h9 : d ∈ R ++ [(⟨.slice a1 go.length z1, go, o1⟩ : Bit Tg)] := by
          split at hd
          · exact hd
          · exact List.mem_append.2 (.inl hd)
        rcases List.mem_append.1 h9 with h9 | h9
        · have h1 := HBK.out.ltOptions d h9 y hy
          have := HU25.out.size
          omega
        · simp at h9
          subst h9
          have := HO1Z.out y hy
          omega
      rintro e w35 ⟨rfl, hb35, -⟩
      have HB35 := Lib.hid hb35
      clear hb35
      go_wp2_with fail
      go_roundg (2 - (k + 1))
      case rel => exact ⟨k + 1, _, by omega, by go_num, HB35.out⟩
      case measure => omega
    · obtain rfl : k = 2 := by omega
      go_wp2_with fail
      refine (alive_any _).mono ?_
      rintro e w1 ⟨rfl, hu1⟩
      have HB1 := Lib.hid (HBK.out.upd hu1)
      clear hu1
      go_wp2_with fail
      refine (apartOptions_any HB1.out).mono ?_
      rintro e w2 ⟨rfl, hu2⟩
      go_wp2_with fail
      go_ret
      exact ⟨rfl, U0.out.trans hu2⟩
end Go.Proofs.YthkfgjmifoeljaaGreat
