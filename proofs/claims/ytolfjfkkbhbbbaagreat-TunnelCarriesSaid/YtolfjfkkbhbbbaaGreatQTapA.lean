/- The tape: what it is as plain data, and the walks of modulo and Next. The walk of (*Tape).Next at 256. The walks of (*Tape).Bytes, tape.New. -/
import Derived.Test.YtolfjfkkbhbbbaaGreatRows
import Derived.Laws.Small
import Derived.Deep.OwnRows
import Derived.Test.YtolfjfkkbhbbbaaGreatQLib
namespace Go.Proofs.YtolfjfkkbhbbbaaGreat
open Go.RowKit
set_option linter.unusedSimpArgs false
set_option linter.unusedVariables false
set_option maxRecDepth 20000

structure Tp where
  l : List Int
  asks : Int
def Tp.next (t : Tp) : Int × Tp :=
  match t.l with
  | v :: r => (v % 256, ⟨r, t.asks⟩)
  | [] => ((7 * (t.asks + 1)) % 256, ⟨[], t.asks + 1⟩)
def Tp.bytes : Nat → Tp → List Int × Tp
  | 0, t => ([], t)
  | n + 1, t => (t.next.1 :: (Tp.bytes n t.next.2).1, (Tp.bytes n t.next.2).2)
theorem Tp.next_bd (t : Tp) : 0 ≤ t.next.1 ∧ t.next.1 < 256 := by
  unfold Tp.next; split <;> dsimp only <;> omega

set_option maxHeartbeats 400000 in
theorem modulo_any (v : Int) (hv : -9223372036854775808 ≤ v ∧ v < 9223372036854775808) (w : World) :
    Calls Tryz.prog 82 #[.int .i64 v, .int .i64 256] w fun e w' => e = .returned (.int .i64 (v % 256)) ∧ w = w' := by
  have ht : v.tmod 256 = if 0 ≤ v then v % 256 else -((-v) % 256) := tmod_eq_if v 256
  generalize hx : v.tmod 256 = x at *
  have hw : IntKind.i64.wrap x = x := by
    simp [IntKind.wrap, IntKind.bits, IntKind.signed]; split at ht <;> omega
  by_cases t : x < 0
  · have hw2 : IntKind.i64.wrap (x + 256) = x + 256 := by
      simp [IntKind.wrap, IntKind.bits, IntKind.signed]; split at ht <;> omega
    have HR : Hid (x + 256 = v % 256) := by show _ = _; split at ht <;> omega
    clear ht
    go_enter Tryz.func82, Tryz.ntmps82
    go_wp2_with fail
    go_ret
    rw [← HR.out]
    exact ⟨rfl, rfl⟩
  · have HR : Hid (x = v % 256) := by show _ = _; split at ht <;> omega
    clear ht
    go_enter Tryz.func82, Tryz.ntmps82
    go_wp2_with fail
    go_ret
    rw [← HR.out]
    exact ⟨rfl, rfl⟩
end Go.Proofs.YtolfjfkkbhbbbaaGreat
namespace Go.Proofs.YtolfjfkkbhbbbaaGreat
open Go.RowKit
set_option linter.unusedSimpArgs false
set_option linter.unusedVariables false
set_option maxRecDepth 20000

/-- The tape t lies at block b and owns these blocks. -/
structure TpAt (w : World) (b : Nat) (t : Tp) (own : List Nat) : Prop where
  ex : ∃ v ol, Blk w b 87 #[v, .int .i64 t.asks] ∧ Own w 3 1 v t.l.length (t.l.map (Value.int .i64)) ol ∧ own = b :: ol
  a0 : 0 ≤ t.asks
  rng : ∀ v ∈ t.l, -9223372036854775808 ≤ v ∧ v < 9223372036854775808
theorem TpAt.upd {w w' : World} {b : Nat} {t : Tp} {own F : List Nat} (h : TpAt w b t own) (hu : Upd F w w') (hF : ∀ k, k ∈ own → k ∉ F) : TpAt w' b t own := by
  obtain ⟨⟨v, ol, h1, h2, rfl⟩, h3, h4⟩ := h
  exact ⟨⟨v, ol, h1.upd hu (hF _ (by simp)), h2.upd hu (fun k hk => hF k (by simp [hk])), rfl⟩, h3, h4⟩
theorem TpAt.keep {w w' : World} {b : Nat} {t : Tp} {own : List Nat} (h : TpAt w b t own) (hu : Upd [] w w') : TpAt w' b t own := h.upd hu (by simp)
theorem TpAt.lt {w : World} {b : Nat} {t : Tp} {own : List Nat} (h : TpAt w b t own) : ∀ k, k ∈ own → k < w.heap.size := by
  obtain ⟨⟨v, ol, h1, h2, rfl⟩, h3, h4⟩ := h
  intro k hk
  simp only [List.mem_cons] at hk
  rcases hk with rfl | hk
  · exact h1.lt
  · exact h2.lt k hk

structure NextEnd (w : World) (b : Nat) (own : List Nat) (p : Int × Tp) (e : Ending) (w' : World) : Prop where
  e : e = .returned (.int .i64 p.1)
  at_ : TpAt w' b p.2 own
  upd : Upd own w w'

set_option maxHeartbeats 1000000 in
theorem next_any {w : World} {b : Nat} {t : Tp} {own : List Nat} (h : TpAt w b t own) (ha : t.asks ≤ 1000000) :
    Calls Tryz.prog 53 #[.pointer (some ⟨b, 0, none⟩), .int .i64 256] w (NextEnd w b own t.next) := by
  obtain ⟨l, asks⟩ := t
  obtain ⟨⟨v, ol, hb, ho, rfl⟩, h3, h4⟩ := h
  dsimp only at hb ho h3 h4 ha
  have hnb : b ∉ ol := ho.ne_blk hb (by decide)
  have c1 := hb.cell 1
  have cf := hb.frozen
  have HB := Lib.hid hb
  have HO := Lib.hid ho
  cases l with
  | nil =>
    obtain ⟨ao, cap, rfl, _, _⟩ := ho.shape
    have c0 := hb.cell 0
    simp at c0 c1
    have HW : Hid (∀ k : Nat, True) := fun _ => trivial
    clear hb ho
    go_enter Tryz.func53, Tryz.ntmps53
    go_wp2_with (go_at_call 82; refine (modulo_any _ (by omega) _).mono ?_; rintro e w' ⟨rfl, rfl⟩)
    go_ret
    have hu : Upd [b] w (w.setCell ⟨b, 1, none⟩ (.int .i64 (asks + 1))) := (Upd.refl _ w).setCell _ (.inl (by simp))
    exact ⟨rfl, ⟨⟨_, ol, (HB.out.set_ 1 _).of_eq rfl, HO.out.upd hu (fun k hk => by simp; rintro rfl; exact hnb hk), rfl⟩, by dsimp only [Tp.next]; omega, by simp [Tp.next]⟩, hu.mono (fun x hx => .inl (by simp at hx; simp [hx]))⟩
  | cons x r =>
    obtain ⟨g, off, cap, rfl, rfl, hnc, hcm, hcell⟩ := ho.form (by simp)
    have cg := hcell 0 (.int .i64 x) rfl
    have c0 := hb.cell 0
    simp only [Nat.add_zero] at cg
    obtain ⟨n, hn⟩ : ∃ n, n = r.length := ⟨_, rfl⟩
    simp only [List.length_cons, ← hn] at c0 hnc
    simp at c0 c1
    have hx := h4 x (by simp)
    have HC : Hid (Own w 3 1 (.slice (if cap = 1 then some ⟨g, off, none⟩ else some ⟨g, off + 1, none⟩) n (cap - 1)) r.length (r.map (Value.int .i64)) [g]) := by
      have := HO.out.cut (k := 1) (by simp)
      show Own _ _ _ _ _ _ _
      rw [hn]
      simpa using this
    clear hb ho hcell hn
    go_enter Tryz.func53, Tryz.ntmps53
    go_wp2_with (go_at_call 82; refine (modulo_any _ (by omega) _).mono ?_; rintro e w' ⟨rfl, rfl⟩)
    all_goals
      go_ret
      refine ⟨rfl, ⟨⟨_, [g], (HB.out.set_ 0 _).of_eq rfl, ?_, rfl⟩, h3, fun v hv => h4 v (by simp [Tp.next] at hv; simp [hv])⟩, (Upd.refl _ w).setCell _ (.inl (by simp))⟩
      refine Own.setCell _ ?_ hnb
      have := HC.out
      simp only [*, ↓reduceIte] at this
      exact this
end Go.Proofs.YtolfjfkkbhbbbaaGreat
namespace Go.Proofs.YtolfjfkkbhbbbaaGreat
open Go.RowKit
set_option linter.unusedSimpArgs false
set_option linter.unusedVariables false
set_option maxRecDepth 20000

theorem rowIs_upd {w w' : World} {g : Nat} {t : TypeId} {n : Nat} {f : Nat → Value} {F : List Nat} (h : w.rowIs g t n f) (hu : Upd F w w') (hg : g ∉ F) : w'.rowIs g t n f := by
  obtain ⟨c, hb, hr⟩ := h
  exact ⟨c, (Blk.upd hb hu hg : Blk w' g t c), hr⟩

/-- The tape after k draws, and the draws. -/
def Tp.after : Nat → Tp → Tp
  | 0, t => t
  | k + 1, t => (Tp.after k t).next.2
def Tp.draw (t : Tp) (k : Nat) : Int := (Tp.after k t).next.1
theorem Tp.after_succ (k : Nat) : ∀ t : Tp, Tp.after (k + 1) t = Tp.after k t.next.2 := by
  induction k with
  | zero => intro t; rfl
  | succ k ih => intro t; rw [Tp.after, ih t, Tp.after]
theorem Tp.draw_succ (t : Tp) (k : Nat) : t.draw (k + 1) = t.next.2.draw k := by unfold Tp.draw; rw [Tp.after_succ]
theorem Tp.bytes_eq : ∀ (n : Nat) (t : Tp), Tp.bytes n t = ((List.range n).map t.draw, Tp.after n t)
  | 0, t => rfl
  | n + 1, t => by
    rw [Tp.bytes, Tp.bytes_eq n, List.range_succ_eq_map, List.map_cons, List.map_map, Tp.after_succ]
    have h : (List.range n).map t.next.2.draw = (List.range n).map (t.draw ∘ Nat.succ) := List.map_congr_left (fun k _ => (t.draw_succ k).symm)
    rw [← h]
    rfl
theorem Tp.after_asks : ∀ (k : Nat) (t : Tp), t.asks ≤ (Tp.after k t).asks ∧ (Tp.after k t).asks ≤ t.asks + k
  | 0, t => ⟨Int.le_refl _, by simp [Tp.after]⟩
  | k + 1, t => by
    have h := Tp.after_asks k t
    rw [Tp.after]
    have : (Tp.after k t).asks ≤ (Tp.after k t).next.2.asks ∧ (Tp.after k t).next.2.asks ≤ (Tp.after k t).asks + 1 := by
      unfold Tp.next; split <;> dsimp only <;> omega
    omega
def Tp.str (n : Nat) (t : Tp) : ByteArray := strOfNums (Tp.bytes n t).1
theorem Tp.str_size (n : Nat) (t : Tp) : (t.str n).size = n := by unfold Tp.str; rw [strOfNums_size, Tp.bytes_eq]; simp

structure BytesEnd (w : World) (b : Nat) (own : List Nat) (s : ByteArray) (t : Tp) (e : Ending) (w' : World) : Prop where
  e : e = .returned (.string s)
  at_ : TpAt w' b t own
  upd : Upd own w w'

set_option maxHeartbeats 1000000 in
theorem bytes_any (n : Nat) (hn : 1 ≤ n ∧ n ≤ 64) {w : World} {b : Nat} {t : Tp} {own : List Nat} (h : TpAt w b t own) (ha : t.asks ≤ 900000) :
    Calls Tryz.prog 22 #[.pointer (some ⟨b, 0, none⟩), .int .i64 n] w (BytesEnd w b own (t.str n) (Tp.after n t)) := by
  have HT := Lib.hid h
  have HS : Hid (t.str n = strOfNums ((List.range n).map t.draw)) := by show _ = _; rw [Tp.str, Tp.bytes_eq]
  rw [HS.out]
  have hlt : w.heap.size ∉ own := fun hk => Nat.lt_irrefl _ (h.lt _ hk)
  have info5 : (Tryz.prog.info? 5).map (fun i => (i.zero, i.size, i.bytes)) = some (some (.int .u8 0), 1, 1) := by kernel_rfl
  have hmk := run_make_row' (P := Tryz.prog) 52 5 (.int .u8 0) 1 Tryz.underlying52 info5 rfl .i64 .i64 n (by omega) (by omega)
  clear h HS
  go_enter Tryz.func22, Tryz.ntmps22
  go_wp2_with fail
  go_loopg [17] n (fun m s17 wr => ∃ k : Nat, k + m = n ∧ s17 = .int .i64 k ∧ TpAt wr b (Tp.after k t) own ∧ Upd own w wr ∧ wr.rowIs w.heap.size 5 n (fun j => .int .u8 (if j < k then t.draw j else 0)))
  case atStart =>
    refine ⟨0, by omega, rfl, HT.out.keep ((Upd.refl _ _).alloc _), (Upd.refl _ _).alloc _, ?_⟩
    refine (World.rowIs_made w (.int .u8 0) n 5).congr fun j hj => ?_
    rw [if_neg (by omega)]
  case round =>
    obtain ⟨k, hk, rfl, hat, hu, hr⟩ := hrel
    by_cases tt : k < n
    · have hbd := (Tp.after k t).next_bd
      have has := (Tp.after_asks k t).2
      have HN := Lib.hid (next_any hat (by omega))
      have HU := Lib.hid hu
      have HR := Lib.hid hr
      obtain ⟨d, hd⟩ : ∃ d, (Tp.after k t).next.1 = d := ⟨_, rfl⟩
      rw [hd] at hbd
      have HD := Lib.hid hd
      clear hd hat hu hr has
      go_wp2_with fail
      refine HN.out.mono ?_
      rintro e w2 ⟨rfl, hat2, hu2⟩
      rw [HD.out]
      have hr2 := rowIs_upd HR.out hu2 hlt
      have hf := hr2.frozen k
      have hc := hr2.cell (i := k) tt
      have HU2 := Lib.hid (HU.out.trans hu2)
      have HA2 := Lib.hid hat2
      have HR2 := Lib.hid hr2
      clear hat2 hu2 hr2
      go_wp2_with fail
      go_roundg (n - (k + 1))
      case rel =>
        refine ⟨k + 1, by omega, by go_num, HA2.out.upd ((Upd.refl [w.heap.size] _).setCell _ (.inl (by simp))) (fun x hx => by simp; rintro rfl; exact hlt hx), HU2.out.setCell _ (.inr (Nat.le_refl _)), ?_⟩
        refine (HR2.out.set _ _).congr fun j hj => ?_
        by_cases hjk : j = k
        · subst hjk
          rw [if_pos rfl, if_pos (by omega)]
          simp [Tp.draw, HD.out]
        · rw [if_neg hjk]
          by_cases h2 : j < k
          · rw [if_pos h2, if_pos (by omega)]
          · rw [if_neg h2, if_neg (by omega)]
      case measure => omega
    · obtain rfl : k = n := by omega
      have hcv := run_convert_bytes_arg (P := Tryz.prog) wr 52 5 Tryz.underlying52 Tryz.underlying5 w.heap.size 0 k k ((List.range k).map t.draw) (by simp) (fun i hi => by rw [Nat.zero_add, hr.cell hi]; simp [hi]) 9 Tryz.underlying9
      clear hr
      go_wp2_with fail
      go_ret
      exact ⟨rfl, hat, hu⟩
end Go.Proofs.YtolfjfkkbhbbbaaGreat
