/- The walk of a tunnel's Take. -/
import Derived.Test.YtolfjfkkbhbbbaaGreatQTunQ
namespace Go.Proofs.YtolfjfkkbhbbbaaGreat
open Go.RowKit
set_option linter.unusedSimpArgs false
set_option linter.unusedVariables false
set_option maxRecDepth 100000

theorem getFromA_small (secret : ByteArray) (m : Nat) : ∀ (f : Nat) (b : ByteArray) (out : List Av), b.size ≤ m → (∀ a ∈ out, a.val.size ≤ m) → ∀ a ∈ (getFromA secret f b out).1, a.val.size ≤ m := by
  intro f
  induction f with
  | zero =>
    intro b out hb ho
    rw [getFromA]
    exact ho
  | succ f ih =>
    intro b out hb ho
    rw [getFromA]
    split
    · exact ho
    · split
      · simp
      · rename_i h
        have hk := oneA_ok (by simpa using h)
        refine ih _ _ (by rw [ByteArray.size_extract]; omega) (fun a ha => ?_)
        rcases List.mem_append.1 ha with h1 | h1
        · exact ho a h1
        · simp at h1; subst h1; exact Nat.le_trans hk.2.2.2 hb
theorem getM_small (b secret : ByteArray) : ∀ a ∈ (getM b secret).1.l, a.val.size ≤ b.size := by
  unfold getM
  split
  · simp [Cm.zero]
  split
  · simp [Cm.zero]
  split
  · simp [Cm.zero]
  split
  · simp [Cm.zero]
  split
  · simp [Cm.zero]
  · intro a ha
    refine getFromA_small secret b.size _ _ [] ?_ (by simp) a ha
    rw [ByteArray.size_extract]
    omega
structure MOk (b : ByteArray) (c : Cm) : Prop where
  n1 : 12 ≤ num b 2 2
  n2 : num b 2 2 ≤ b.size
  s : 0 ≤ c.s ∧ c.s < 65536
theorem getM_ok {b secret : ByteArray} (h : (getM b secret).2 = 0) : MOk b (getM b secret).1 := by
  unfold getM at h ⊢
  split at h
  · cases h
  rename_i t1
  rw [if_neg t1]
  split at h
  · cases h
  rename_i t2
  rw [if_neg t2]
  split at h
  · cases h
  rename_i t3
  rw [if_neg t3]
  split at h
  · cases h
  rename_i t4
  rw [if_neg t4]
  split at h
  · rename_i t5; exact absurd h t5
  rename_i t5
  rw [if_neg t5]
  exact ⟨by omega, by omega, num_bd b 6 2⟩

/-- What Take tells: nothing, or one message whose values lie in blocks of their own. -/
structure TookEnd (w : World) (b : Nat) (own : List Nat) (r : Tn × List Cm) (e : Ending) (w' : World) : Prop where
  ex : ∃ u own', e = .returned u ∧ TunAt w' b r.1 own' ∧ Grew w own own' ∧
    ((r.2 = [] ∧ u = .slice none 0 0) ∨ (∃ g m v ol, r.2 = [m] ∧ u = .slice (some ⟨g, 0, none⟩) 1 1 ∧ Bx w' g m v ∧ w.heap.size ≤ g ∧ g ∉ own' ∧
      Own w' 51 5 v m.l.length (avCells m.l) ol ∧ (∀ k ∈ ol, w.heap.size ≤ k) ∧ (∀ k ∈ ol, k ∉ own') ∧ g ∉ ol))
  upd : Upd own w w'
theorem TookEnd.nil {w w' : World} {b : Nat} {own : List Nat} {t : Tn} {u : Value} {e : Ending} (h : TunEnd w b own t u e w') : TookEnd w b own (t, []) (.returned (.slice none 0 0)) w' := by
  obtain ⟨-, ⟨own', h1, h2⟩, h3⟩ := h
  exact ⟨⟨_, own', rfl, h1, h2, .inl ⟨rfl, rfl⟩⟩, h3⟩

theorem Whs.back {w w1 W : World} {b : Nat} {t : Tn} {own0 own : List Nat} {v : Value} {c : Cm} {ol : List Nat} {g : Nat} (h : Whs w1 W b t own0 own v c ol g) (hu : Upd [] w w1) : Whs w W b t own0 own v c ol g :=
  ⟨h.m, (hu.mono (by simp)).trans h.u, h.x, h.gb, h.go, fun k hk => (h.gr k hk).imp id (fun h => Nat.le_trans hu.size h), h.bm⟩
structure Yielded (t : Tn) (p : Tn × Bool) : Prop where
  secret : p.1.secret = t.secret
  tape : p.1.tape = t.tape
  asked : p.1.asked = t.asked
theorem Tn.yields_kept (t : Tn) (c : Cm) : Yielded t (t.yields c) := by
  unfold Tn.yields
  split
  · exact ⟨rfl, rfl, rfl⟩
  split
  · exact ⟨rfl, rfl, rfl⟩
  · exact ⟨rfl, rfl, rfl⟩
theorem Tn.handle_told (t : Tn) (c : Cm) : (t.handle c).2 = [] ∨ (t.handle c).2 = [⟨c.t, c.s, 0, 0, c.l⟩] := by
  unfold Tn.handle
  (repeat' split) <;> simp

theorem Whs.took {w W W' : World} {b : Nat} {t : Tn} {own0 own own' : List Nat} {v u : Value} {c : Cm} {ol : List Nat} {g : Nat} (h : Whs w W b t own0 own v c ol g) (hof : ∀ k ∈ ol, w.heap.size ≤ k)
    (h1 : TunAt W' b (t.handle c).1 own') (h2 : Grew W own own') (h3 : Told W W' own' (t.handle c).2 v u) (h4 : Upd own W W') : TookEnd w b own0 (t.handle c) (.returned u) W' := by
  have hn := h.next h1 h2 h4
  refine ⟨⟨u, own', rfl, h1, hn.gr, ?_⟩, hn.u⟩
  rcases h3 with ⟨k1, k2⟩ | ⟨gm, m, k1, k2, k3, k4, k5⟩
  · exact .inl ⟨k1, k2⟩
  · have hm : m = ⟨c.t, c.s, 0, 0, c.l⟩ := by
      rcases t.handle_told c with e | e
      · rw [k1] at e; cases e
      · rw [k1] at e; injection e
    subst hm
    exact .inr ⟨gm, _, v, ol, k1, k2, k3, Nat.le_trans h.u.size k4, k5, hn.m.o, hof, hn.m.ne, fun hk => by have := h.m.o.lt gm hk; omega⟩
def tkA (w0 : World) (bw : Nat) (ow : List Nat) (q : C) (n : Nat) (vs : List Value) (W : World) : Prop := match vs with
  | [] => Upd [] w0 W
  | [u] => (∃ ao cap, u = .slice ao n cap) ∧ CtlAt W bw q ow ∧ Upd ow w0 W
  | [_, _] => CtlAt W bw q ow ∧ Upd ow w0 W
  | _ => False
set_option maxHeartbeats 1000000 in
theorem ttake_any {w : World} {b : Nat} {t : Tn} {own : List Nat} (h : TunAt w b t own) (s : ByteArray) (hs : s.size ≤ 400000) (hz : t.secret.size ≤ 60) (ha : t.asked.size ≤ 400000) (hk : t.tape.asks ≤ 800000) (nw : NewOk t.window t.queue t.retry t.wait 0) :
    Calls Tryz.prog 21 #[.pointer (some ⟨b, 0, none⟩), .string s] w (TookEnd w b own (t.take s)) := by
  have HT := Lib.hid h
  have HN := Lib.hid (tnone_at h)
  have c10 := h.state
  have c1 := h.cellAt 1 (.string t.secret) (fun _ _ => rfl)
  obtain ⟨R, hR⟩ : ∃ R, t.take s = R := ⟨_, rfl⟩
  have HR : Hid (R = if t.state = 4 then (t, []) else if (getM s t.secret).2 ≠ 0 then (t, []) else t.takeM (getM s t.secret).1 (bodyM s (getM s t.secret).1.s)) := by show _ = _; rw [← hR, Tn.take]
  rw [hR]
  have HG := Lib.hid (msgGet_any s t.secret hs (by omega) w)
  have HSM := Lib.hid (getM_small s t.secret)
  have HOK : Hid ((getM s t.secret).2 = 0 → MOk s (getM s t.secret).1) := getM_ok
  obtain ⟨c, er, hc⟩ : ∃ c er, getM s t.secret = (c, er) := ⟨_, _, rfl⟩
  rw [hc] at HR HG HSM HOK
  dsimp only at HR HG HSM HOK
  have HP := Lib.hid (And.intro hz (And.intro ha (And.intro hk (And.intro nw hs))))
  clear h hR hc hz ha hk nw hs
  by_cases t0 : t.state = 4
  · have T0 := Lib.hid t0
    rw [t0] at c10
    clear t0
    go_enter Tryz.func21, Tryz.ntmps21
    go_wp2_with fail
    refine HN.out.mono ?_
    rintro e w' ⟨rfl, rfl⟩
    go_wp2_with fail
    go_ret
    rw [HR.out, if_pos T0.out]
    exact TookEnd.nil (u := .tuple #[]) ⟨rfl, ⟨_, HT.out, Grew.refl _ _⟩, Upd.refl _ _⟩
  have HR1 := Lib.hid (HR.out.trans (if_neg t0))
  clear HR
  by_cases t1 : er = 0
  case neg =>
    have T1 := Lib.hid t1
    go_enter Tryz.func21, Tryz.ntmps21
    go_wp2_with fail
    refine HN.out.mono ?_
    rintro e w' ⟨rfl, rfl⟩
    go_wp2_with fail
    refine HG.out.mono ?_
    rintro e w1 ⟨v, ol, rfl, ho, hn, hu⟩
    obtain ⟨ao, cap, rfl, -, -⟩ := ho.shape
    obtain ⟨ln, hln⟩ : ∃ ln, c.l.length = ln := ⟨_, rfl⟩
    rw [hln]
    simp only [Cm.val]
    have HU := Lib.hid hu
    clear ho hn hu hln
    go_wp2_with fail
    go_ret
    rw [HR1.out, if_pos T1.out]
    exact TookEnd.nil (u := .tuple #[]) (e := .returned (.tuple #[])) ⟨rfl, ⟨_, HT.out.keep (HU.out.alloc _), Grew.refl _ _⟩, (HU.out.alloc _).mono (by simp)⟩
  have HR2 := Lib.hid (HR1.out.trans (if_neg (fun h => h t1)))
  have HM := Lib.hid (HOK.out t1)
  subst t1
  clear HR1 HOK
  go_enter Tryz.func21, Tryz.ntmps21
  go_wp2_with fail
  refine HN.out.mono ?_
  rintro e w' ⟨rfl, rfl⟩
  go_wp2_with fail
  refine HG.out.mono ?_
  rintro e w1 ⟨v, ol, rfl, ho, hn, hu⟩
  have HM1 : Hid (Msg w1 b t own v c.l ol) := ⟨HT.out.keep hu, ho, fun k hk hk2 => by have := hn k hk; have := HT.out.lt k hk2; omega, fun a ha => Nat.le_trans (HSM.out a ha) HP.out.2.2.2.2⟩
  have HOF : Hid (∀ k ∈ ol, w.heap.size ≤ k) := hn
  obtain ⟨ao, cap, rfl, -, -⟩ := ho.shape
  obtain ⟨ln, hln⟩ : ∃ ln, c.l.length = ln := ⟨_, rfl⟩
  rw [hln] at HM1 ⊢
  simp only [Cm.val]
  have HU1 := Lib.hid hu
  have HKI : Hid (∀ W v, AvsAt W v c.l → Calls Tryz.prog 29 #[c.val v] W fun e w' => e = .returned (.int .i64 (kindOf c.l)) ∧ Upd [] W w') := fun W v h => kind_any _ _ _ _ _ _ _ h (fun a ha => Nat.le_trans (HM1.out.hs a ha) (by simp [maxLen]))
  simp only [Cm.val] at HKI
  clear ho hn hu hln HN
  go_wp2_with fail
  obtain ⟨w2, hw2⟩ : ∃ w2, w1.alloc (Obj.cells #[.int .i64 c.t, .int .i64 c.s, .int .i64 c.ns, .int .i64 c.nr, .slice ao ln cap] 55) = w2 := ⟨_, rfl⟩
  have S2 := Lib.hid ((Whs.begin HM1.out hw2).back HU1.out)
  obtain ⟨g, hg⟩ : ∃ g, w1.heap.size = g := ⟨_, rfl⟩
  rw [hg] at S2
  rw [hw2, hg]
  clear hw2 hg c10 c1
  refine (HKI.out _ _ S2.out.m.avs).mono ?_
  rintro e w3 ⟨rfl, u3⟩
  have S3 := Lib.hid (S2.out.keep u3)
  have HR3 : Hid (R = if c.t ≠ t.cid ∧ (c.t ≠ 0 ∨ kindOf c.l ≠ 1 ∨ (t.state ≠ 0 ∧ t.state ≠ 1)) then (t, []) else if kindOf c.l = 1 ∧ t.state = 1 then (if (t.yields c).2 = false then ((t.yields c).1, []) else (t.yields c).1.hear c (bodyM s c.s)) else t.hear c (bodyM s c.s)) := by
    show _ = _
    rw [HR2.out, Tn.takeM]
  have HYI : Hid (∀ W own v, Msg W b t own v c.l ol → Calls Tryz.prog 48 #[.pointer (some ⟨b, 0, none⟩), c.val v] W (TunEnd W b own (t.yields c).1 (.bool (t.yields c).2))) := fun W own v h => tyields_any h HP.out.2.2.2.1
  have HYK := Lib.hid (t.yields_kept c)
  simp only [Cm.val] at HYI
  generalize t.yields c = Y at *
  obtain ⟨YT, yb⟩ := Y
  dsimp only at HYI HYK HR3
  have HBO : Hid (num s 2 2 = 12 → bodyM s c.s = ⟨#[]⟩) := fun h => if_pos h
  have HBN : Hid (num s 2 2 ≠ 12 → bodyM s c.s = be 2 c.s ++ s.extract 12 (num s 2 2).toNat) := fun h => if_neg h
  have HVS : Hid ((s.extract 12 (num s 2 2).toNat).size = (num s 2 2).toNat - 12) := by
    show _ = _
    have := HM.out.n2
    rw [ByteArray.size_extract]
    omega
  obtain ⟨body, hbody⟩ : ∃ x, bodyM s c.s = x := ⟨_, rfl⟩
  obtain ⟨vls, hvals⟩ : ∃ x, s.extract 12 (num s 2 2).toNat = x := ⟨_, rfl⟩
  have HVA : Hid (∀ W, Calls Tryz.prog 49 #[.string s] W fun e w' => e = .returned (.string vls) ∧ Upd [] W w') := by
    intro W
    have h := values_any s HP.out.2.2.2.2 HM.out.n1 HM.out.n2 W
    rw [hvals] at h
    exact h
  rw [hbody] at HR3 HBO HBN
  rw [hvals] at HBN HVS
  have HBE : Hid (vls.size = 0 → body = ⟨#[]⟩) := fun h => HBO.out (by have := HVS.out; have := HM.out.n1; omega)
  have HBF : Hid (vls.size ≠ 0 → body = be 2 c.s ++ vls ∧ vls.size ≤ 400000) := fun h => ⟨HBN.out (by have := HVS.out; have := HM.out.n1; omega), by have := HVS.out; have := HM.out.n2; have := HP.out.2.2.2.2; omega⟩
  have HTW := Lib.hid (two_any c.s HM.out.s)
  clear HR2 u3 HKI hbody hvals HBO HBN HVS
  generalize kindOf c.l = kd at *
  have c10 := S3.out.m.at_.state
  have c2 := S3.out.m.at_.cellAt 2 (.int .i64 t.cid) (fun _ _ => rfl)
  have b0 := S3.out.x.cell 0
  have b1 := S3.out.x.cell 1
  have b2 := S3.out.x.cell 2
  have b3 := S3.out.x.cell 3
  have b4 := S3.out.x.cell 4
  simp only [List.size_toArray, List.length_cons, List.length_nil, List.getElem?_toArray, List.getElem?_cons_zero, List.getElem?_cons_succ] at b0 b1 b2 b3 b4
  by_cases q0 : c.t = t.cid
  case neg =>
    have z0 : (c.t != t.cid) = true := bne_iff_ne.2 q0
    by_cases q1 : c.t = 0
    case neg =>
      have z1 : (c.t != 0) = true := bne_iff_ne.2 q1
      have Q := Lib.hid (And.intro q0 q1)
      go_wp2_with fail
      go_quiet (fail)
      go_wp2_with fail
      go_ret
      rw [show R = (t, []) by rw [HR3.out, if_pos (by exact ⟨Q.out.1, .inl Q.out.2⟩)]]
      exact TookEnd.nil ((S3.out.keep ((Upd.refl [] _).drewN _)).ret (.slice none 0 0))
    have z1 : (c.t != 0) = false := by rw [q1]; rfl
    have Q1 := Lib.hid q1
    clear q1
    by_cases q2 : kd = 1
    case neg =>
      have z2 : (kd == 1) = false := beq_false_of_ne q2
      have Q := Lib.hid (And.intro q0 q2)
      go_wp2_with fail
      go_quiet (fail)
      go_wp2_with fail
      go_ret
      rw [show R = (t, []) by rw [HR3.out, if_pos (by exact ⟨Q.out.1, .inr (.inl Q.out.2)⟩)]]
      exact TookEnd.nil ((S3.out.keep ((Upd.refl [] _).drewN _)).ret (.slice none 0 0))
    have z2 : (kd == 1) = true := by rw [q2]; rfl
    have Q2 := Lib.hid q2
    clear q2
    by_cases q3 : t.state = 0
    case pos =>
      have z3 : (t.state != 0) = false := by rw [q3]; rfl
      have z4 : (t.state == 1) = false := by rw [q3]; rfl
      have HRH : Hid (R = t.hear c body) := by show _ = _; rw [HR3.out, if_neg (by rintro ⟨-, h | h | h⟩; exact h Q1.out; exact h Q2.out; exact h.1 q3), if_neg (by rintro ⟨-, h⟩; rw [q3] at h; cases h)]
      have HPT : Hid (t.secret.size ≤ 60 ∧ t.asked.size ≤ 400000 ∧ t.tape.asks ≤ 800000) := ⟨HP.out.1, HP.out.2.1, HP.out.2.2.1⟩
      have Q3 := Lib.hid q3
      clear HR3 q3
      go_wp2_with fail
      go_quiet (fail)
      rename_i nq
      obtain ⟨w4, hw4⟩ : ∃ w4, w3.drewN nq = w4 := ⟨_, rfl⟩
      have S4 : Hid (Whs w w4 b t own own (.slice ao ln cap) c ol g) := by show Whs _ _ _ _ _ _ _ _ _ _; rw [← hw4]; exact S3.out.keep ((Upd.refl _ _).drewN _)
      rw [hw4]
      clear hw4 c10 c2 b0 b1 b2 b3 b4
      have c10 := S4.out.m.at_.state
      have b0 := S4.out.x.cell 0
      have b1 := S4.out.x.cell 1
      have b2 := S4.out.x.cell 2
      have b3 := S4.out.x.cell 3
      have b4 := S4.out.x.cell 4
      simp only [List.size_toArray, List.length_cons, List.length_nil, List.getElem?_toArray, List.getElem?_cons_zero, List.getElem?_cons_succ] at b0 b1 b2 b3 b4
      go_wp2_with fail
      go_wp2_with fail
      refine (HVA.out _).mono ?_
      rintro e w5 ⟨rfl, u5⟩
      have S5 := Lib.hid (S4.out.keep u5)
      clear u5 c10 b0 b1 b2 b3 b4
      have b1 := S5.out.x.cell 1
      simp only [List.size_toArray, List.length_cons, List.length_nil, List.getElem?_toArray, List.getElem?_cons_zero, List.getElem?_cons_succ] at b1
      have c17 := S5.out.m.at_.cellAt 17 (.int .i64 t.quiet) (fun _ _ => rfl)
      have f17 := S5.out.m.at_.frozen 17
      by_cases hv : vls.size = 0
      · have e0 := str_empty_t hv
        have HBB : Hid (body = ⟨#[]⟩) := HBE.out hv
        have HBL : Hid (((⟨#[]⟩ : ByteArray)).size ≤ 281474976710656) := by show ByteArray.size ⟨#[]⟩ ≤ _; exact Nat.zero_le _
        clear hv
        go_wp2_with fail
        have S6 := Lib.hid (S5.out.sets 17 (.int .i64 0) { t with quiet := 0 } (fun _ _ => rfl) rfl rfl)
        have HRB : Hid (R = if ((t.way.take c.ns c.nr (⟨#[]⟩ : ByteArray)).2 = []) then ({ t with quiet := 0, way := (t.way.take c.ns c.nr (⟨#[]⟩ : ByteArray)).1 }, []) else ({ t with quiet := 0, way := (t.way.take c.ns c.nr (⟨#[]⟩ : ByteArray)).1 } : Tn).handle c) := by
          show _ = _
          rw [HRH.out, HBB.out, Tn.hear]
        obtain ⟨bw, ow, c9, hcw, hback⟩ := S6.out.m.at_.wayUp
        have HTK : Hid (CtlAt _ bw t.way ow) := hcw
        have HBK := Lib.hid hback
        obtain ⟨W0, hW0⟩ : ∃ W0, _ = W0 := ⟨(w5).setCell ⟨b, 17, none⟩ (.int .i64 0), rfl⟩
        rw [hW0] at S6 HTK HBK c9
        rw [hW0]
        have C9 := Lib.hid c9
        obtain ⟨qs, hqs⟩ : ∃ x, (t.way.take c.ns c.nr (⟨#[]⟩ : ByteArray)).2 = x := ⟨_, rfl⟩
        obtain ⟨q1, hq1⟩ : ∃ x, (t.way.take c.ns c.nr (⟨#[]⟩ : ByteArray)).1 = x := ⟨_, rfl⟩
        obtain ⟨nn, hnn⟩ : ∃ x, qs.length = x := ⟨_, rfl⟩
        have HNN := Lib.hid hnn
        have HTA : Hid (∀ W, CtlAt W bw t.way ow → Calls Tryz.prog 51 #[.pointer (some ⟨bw, 0, none⟩), .agg #[.int .i64 c.ns, .int .i64 c.nr, .string (⟨#[]⟩ : ByteArray)]] W fun e w' =>
            (∃ ao cap, e = .returned (.slice ao nn cap)) ∧ CtlAt w' bw q1 ow ∧ Upd ow W w') := by
          intro W hW
          refine (take_at hW c.ns c.nr (⟨#[]⟩ : ByteArray) HBL.out).mono ?_
          rintro e w' ⟨⟨v, ol, rfl, ho, -⟩, k2, k3⟩
          rw [hqs, hnn] at ho
          rw [hq1] at k2
          obtain ⟨ao, cap, rfl, -, -⟩ := ho.shape
          exact ⟨⟨ao, cap, rfl⟩, k2, k3⟩
        rw [hqs, hq1] at HRB
        clear hcw hback hW0 hqs hq1 hnn c9
        refine wp_region_chain [some (.pointer (some ⟨b, 0, none⟩)), some (.pointer (some ⟨b, 0, none⟩)), some (.pointer (some ⟨b, 9, none⟩)), some (.pointer (some ⟨bw, 0, none⟩)), some (.pointer (some ⟨g, 2, none⟩)), some (.int .i64 c.ns), some (.pointer (some ⟨g, 3, none⟩)), some (.int .i64 c.nr), some (.string (⟨#[]⟩ : ByteArray)), some (.agg #[.int .i64 c.ns, .int .i64 c.nr, .string (⟨#[]⟩ : ByteArray)]), none, some (.int .i64 nn), some (.bool ((nn : Int) == 0))] [10,11] (tkA W0 bw ow q1 nn) [(0, 0), (0, 0), (0, 0), (0, 0), (0, 0), (0, 0), (0, 0), (0, 0), (0, 0), (0, 0), (0, 0), (1, 1), (2, 2)] (by kernel_rfl) (by kernel_rfl) (by kernel_rfl) (by kernel_rfl) (by kernel_rfl) (by kernel_rfl) (((Upd.refl [] _).drew)) ?_ ?_
        · refine StepsC.cons ?_ (StepsC.cons ?_ (StepsC.cons ?_ (StepsC.cons ?_ (StepsC.cons ?_ (StepsC.cons ?_ (StepsC.cons ?_ (StepsC.cons ?_ (StepsC.cons ?_ (StepsC.cons ?_ (StepsC.cons ?_ (StepsC.cons ?_ (StepsC.cons ?_ StepsC.nil))))))))))))
          · refine chain_is _ (.inl rfl) ⟨_, rfl⟩ (by kernel_rfl) rfl ?_
            intro a W kst l0 h0 A0 hF hD
            have k0 : kst = 0 := Nat.le_antisymm h0 l0
            subst k0
            clear l0 h0
            have e0 : a.tmps[0]?.getD undef = _ := (ev a 0).symm.trans (hF 0 (by kernel_rfl))
            clear hF hD
            go_simp
          · refine chain_is _ (.inl rfl) ⟨_, rfl⟩ (by kernel_rfl) rfl ?_
            intro a W kst l0 h0 A0 hF hD
            have k0 : kst = 0 := Nat.le_antisymm h0 l0
            subst k0
            clear l0 h0
            have e93 : a.tmps[93]?.getD undef = .pointer (some ⟨b, 0, none⟩) := (ev a 93).symm.trans (hD _ (Array.mem_of_getElem? (i := 0) rfl) rfl)
            clear hF hD
            go_simp
          · refine chain_is _ (.inl rfl) ⟨_, rfl⟩ (by kernel_rfl) rfl ?_
            intro a W kst l0 h0 A0 hF hD
            have k0 : kst = 0 := Nat.le_antisymm h0 l0
            subst k0
            clear l0 h0
            have e94 : a.tmps[94]?.getD undef = .pointer (some ⟨b, 0, none⟩) := (ev a 94).symm.trans (hD _ (Array.mem_of_getElem? (i := 0) rfl) rfl)
            clear hF hD
            go_simp
          · refine chain_is _ (.inl rfl) ⟨_, rfl⟩ (by kernel_rfl) rfl ?_
            intro a W kst l0 h0 A0 hF hD
            have k0 : kst = 0 := Nat.le_antisymm h0 l0
            subst k0
            clear l0 h0
            have e95 : a.tmps[95]?.getD undef = .pointer (some ⟨b, 9, none⟩) := (ev a 95).symm.trans (hD _ (Array.mem_of_getElem? (i := 0) rfl) rfl)
            clear hF hD
            have hu : Upd [] W0 W := A0
            have hc := (hu.cell (cell_lt' C9.out) (by simp)).trans C9.out
            go_simp
          · refine chain_is _ (.inl rfl) ⟨_, rfl⟩ (by kernel_rfl) rfl ?_
            intro a W kst l0 h0 A0 hF hD
            have k0 : kst = 0 := Nat.le_antisymm h0 l0
            subst k0
            clear l0 h0
            have e5 : a.tmps[5]?.getD undef = _ := (ev a 5).symm.trans (hF 5 (by kernel_rfl))
            clear hF hD
            go_simp
          · refine chain_is _ (.inl rfl) ⟨_, rfl⟩ (by kernel_rfl) rfl ?_
            intro a W kst l0 h0 A0 hF hD
            have k0 : kst = 0 := Nat.le_antisymm h0 l0
            subst k0
            clear l0 h0
            have e97 : a.tmps[97]?.getD undef = .pointer (some ⟨g, 2, none⟩) := (ev a 97).symm.trans (hD _ (Array.mem_of_getElem? (i := 0) rfl) rfl)
            clear hF hD
            have hu : Upd [] W0 W := A0
            have hc := (S6.out.x.upd hu (by simp)).cell 2
            simp only [List.size_toArray, List.length_cons, List.length_nil, List.getElem?_toArray, List.getElem?_cons_zero, List.getElem?_cons_succ] at hc
            go_simp
          · refine chain_is _ (.inl rfl) ⟨_, rfl⟩ (by kernel_rfl) rfl ?_
            intro a W kst l0 h0 A0 hF hD
            have k0 : kst = 0 := Nat.le_antisymm h0 l0
            subst k0
            clear l0 h0
            have e5 : a.tmps[5]?.getD undef = _ := (ev a 5).symm.trans (hF 5 (by kernel_rfl))
            clear hF hD
            go_simp
          · refine chain_is _ (.inl rfl) ⟨_, rfl⟩ (by kernel_rfl) rfl ?_
            intro a W kst l0 h0 A0 hF hD
            have k0 : kst = 0 := Nat.le_antisymm h0 l0
            subst k0
            clear l0 h0
            have e99 : a.tmps[99]?.getD undef = .pointer (some ⟨g, 3, none⟩) := (ev a 99).symm.trans (hD _ (Array.mem_of_getElem? (i := 0) rfl) rfl)
            clear hF hD
            have hu : Upd [] W0 W := A0
            have hc := (S6.out.x.upd hu (by simp)).cell 3
            simp only [List.size_toArray, List.length_cons, List.length_nil, List.getElem?_toArray, List.getElem?_cons_zero, List.getElem?_cons_succ] at hc
            go_simp
          · refine chain_is _ (.inl rfl) ⟨_, rfl⟩ (by kernel_rfl) rfl ?_
            intro a W kst l0 h0 A0 hF hD
            have k0 : kst = 0 := Nat.le_antisymm h0 l0
            subst k0
            clear l0 h0
            have e8 : a.tmps[8]?.getD undef = _ := (ev a 8).symm.trans (hF 8 (by kernel_rfl))
            clear hF hD
            go_simp
          · refine chain_is _ (.inl rfl) ⟨_, rfl⟩ (by kernel_rfl) rfl ?_
            intro a W kst l0 h0 A0 hF hD
            have k0 : kst = 0 := Nat.le_antisymm h0 l0
            subst k0
            clear l0 h0
            have e98 : a.tmps[98]?.getD undef = .int .i64 c.ns := (ev a 98).symm.trans (hD _ (Array.mem_of_getElem? (i := 0) rfl) rfl)
            have e100 : a.tmps[100]?.getD undef = .int .i64 c.nr := (ev a 100).symm.trans (hD _ (Array.mem_of_getElem? (i := 1) rfl) rfl)
            have e101 : a.tmps[101]?.getD undef = .string (⟨#[]⟩ : ByteArray) := (ev a 101).symm.trans (hD _ (Array.mem_of_getElem? (i := 2) rfl) rfl)
            clear hF hD
            go_simp
          · refine chain_call (.inl rfl) ⟨_, rfl⟩ (by kernel_rfl) ?_
            intro a W kst l0 h0 A0 hF hD
            have k0 : kst = 0 := Nat.le_antisymm h0 l0
            subst k0
            clear l0 h0
            have e96 : a.tmps[96]?.getD undef = .pointer (some ⟨bw, 0, none⟩) := (ev a 96).symm.trans (hD _ (Array.mem_of_getElem? (i := 0) rfl) rfl)
            have e102 : a.tmps[102]?.getD undef = .agg #[.int .i64 c.ns, .int .i64 c.nr, .string (⟨#[]⟩ : ByteArray)] := (ev a 102).symm.trans (hD _ (Array.mem_of_getElem? (i := 1) rfl) rfl)
            clear hF hD
            have hu : Upd [] W0 W := A0
            refine ⟨_, _, by (go_simp; first | done | rfl | exact ⟨rfl, rfl⟩), ?_⟩
            refine (HTA.out _ (HTK.out.keep hu)).mono ?_
            rintro e wq ⟨⟨ao1, cap1, rfl⟩, k2, k3⟩
            exact ⟨_, rfl, trivial, ⟨ao1, cap1, rfl⟩, k2, (hu.mono (by simp)).trans k3⟩
          · refine chain_run (.inl rfl) ⟨_, rfl⟩ (by kernel_rfl) ?_
            intro a W kst l0 h0 A0 hF hD
            have k0 : kst = 1 := Nat.le_antisymm h0 l0
            subst k0
            clear l0 h0
            clear hF hD
            obtain ⟨⟨ao1, cap1, hv⟩, k2, k3⟩ := A0
            have e103 : a.tmps[103]?.getD undef = _ := (ev a 103).symm.trans hv
            exact ⟨_, W, by (go_simp; first | done | rfl), rfl, k2, k3⟩
          · refine chain_is _ (.inl rfl) ⟨_, rfl⟩ (by kernel_rfl) rfl ?_
            intro a W kst l0 h0 A0 hF hD
            have k0 : kst = 2 := Nat.le_antisymm h0 l0
            subst k0
            clear l0 h0
            have e104 : a.tmps[104]?.getD undef = .int .i64 nn := (ev a 104).symm.trans (hD _ (Array.mem_of_getElem? (i := 0) rfl) rfl)
            clear hF hD
            go_simp
        intro vals W hv hA
        have v0 : vals 0 = .pointer (some ⟨b, 0, none⟩) := hv 0 (by decide)
        have v1 : vals 1 = .pointer (some ⟨b, 0, none⟩) := hv 1 (by decide)
        have v2 : vals 2 = .pointer (some ⟨b, 9, none⟩) := hv 2 (by decide)
        have v3 : vals 3 = .pointer (some ⟨bw, 0, none⟩) := hv 3 (by decide)
        have v4 : vals 4 = .pointer (some ⟨g, 2, none⟩) := hv 4 (by decide)
        have v5 : vals 5 = .int .i64 c.ns := hv 5 (by decide)
        have v6 : vals 6 = .pointer (some ⟨g, 3, none⟩) := hv 6 (by decide)
        have v7 : vals 7 = .int .i64 c.nr := hv 7 (by decide)
        have v8 : vals 8 = .string (⟨#[]⟩ : ByteArray) := hv 8 (by decide)
        have v9 : vals 9 = .agg #[.int .i64 c.ns, .int .i64 c.nr, .string (⟨#[]⟩ : ByteArray)] := hv 9 (by decide)
        have v11 : vals 11 = .int .i64 nn := hv 11 (by decide)
        have v12 : vals 12 = .bool ((nn : Int) == 0) := hv 12 (by decide)
        clear hv
        obtain ⟨k2, k3⟩ := hA
        simp only [putAll, Act.put, Nat.zero_add, Nat.reduceAdd, v0, v1, v2, v3, v4, v5, v6, v7, v8, v9, v11, v12, List.setIfInBounds_toArray, List.set_cons_zero, List.set_cons_succ]
        clear v0 v1 v2 v3 v4 v5 v6 v7 v8 v9 v11 v12
        obtain ⟨⟨own7, z1, z2⟩, z3⟩ := HBK.out W q1 ow k2 (Grew.refl _ _) k3
        have S7 := Lib.hid (S6.out.next z1 z2 z3)
        clear k2 k3 z1 z2 z3
        by_cases hn0 : nn = 0
        · have HRZ : Hid (R = ({ t with quiet := 0, way := q1 }, [])) := by show _ = _; rw [HRB.out, if_pos (List.eq_nil_of_length_eq_zero (HNN.out.trans hn0))]
          subst hn0
          go_wp2_with fail
          go_ret
          rw [HRZ.out]
          exact TookEnd.nil (S7.out.ret (.slice none 0 0))
        · have HRZ : Hid (R = ({ t with quiet := 0, way := q1 } : Tn).handle c) := by show _ = _; rw [HRB.out, if_neg (by rintro rfl; exact hn0 (by rw [← HNN.out]; rfl))]
          have hnb : (((nn : Nat) : Int) == 0) = false := beq_false_of_ne (by omega)
          have HPT7 : Hid (({ t with quiet := 0, way := q1 } : Tn).secret.size ≤ 60 ∧ ({ t with quiet := 0, way := q1 } : Tn).asked.size ≤ 400000 ∧ ({ t with quiet := 0, way := q1 } : Tn).tape.asks ≤ 800000) := HPT.out
          generalize ({ t with quiet := 0, way := q1 } : Tn) = T7 at *
          have b0 := S7.out.x.cell 0
          have b1 := S7.out.x.cell 1
          have b2 := S7.out.x.cell 2
          have b3 := S7.out.x.cell 3
          have b4 := S7.out.x.cell 4
          simp only [List.size_toArray, List.length_cons, List.length_nil, List.getElem?_toArray, List.getElem?_cons_zero, List.getElem?_cons_succ] at b0 b1 b2 b3 b4
          have HH : Hid (∀ W own v, Msg W b T7 own v c.l ol → Calls Tryz.prog 52 #[.pointer (some ⟨b, 0, none⟩), c.val v] W (HandleEnd W b own v (T7.handle c))) := fun W own v h => thandle_any h HPT7.out.1 HPT7.out.2.1 HPT7.out.2.2
          simp only [Cm.val] at HH
          go_wp2_with fail
          refine (HH.out _ _ _ S7.out.m).mono ?_
          rintro e w8 ⟨⟨u, own8, rfl, y1, y2, y3⟩, y4⟩
          have HFIN := Lib.hid (S7.out.took HOF.out y1 y2 y3 y4)
          rw [← HRZ.out] at HFIN
          clear y1 y2 y4 HH
          rcases y3 with ⟨-, rfl⟩ | ⟨gm, m, -, rfl, -⟩
          all_goals
            go_wp2_with fail
            go_ret
            exact HFIN.out
      · have e0 := str_empty_f hv
        have HBB : Hid (body = be 2 c.s ++ vls) := (HBF.out hv).1
        have HVL : Hid (vls.size ≤ 400000) := (HBF.out hv).2
        clear hv
        go_wp2_with fail
        refine (HTW.out _).mono ?_
        have htz : (be 2 c.s).size = 2 := be_size 2 c.s
        generalize be 2 c.s = tw at *
        rintro e w6 ⟨rfl, u6⟩
        have S5 := Lib.hid (S5.out.keep u6)
        have HBL : Hid ((tw ++ vls).size ≤ 281474976710656) := by show _ ≤ _; rw [ByteArray.size_append]; have := HVL.out; omega
        have hcat := run_string_add_sum (P := Tryz.prog) w6 tw vls (by have := HVL.out; omega)
        have c17 := S5.out.m.at_.cellAt 17 (.int .i64 t.quiet) (fun _ _ => rfl)
        have f17 := S5.out.m.at_.frozen 17
        clear u6 htz
        go_wp2_with fail
        clear hcat
        have S6 := Lib.hid (S5.out.sets 17 (.int .i64 0) { t with quiet := 0 } (fun _ _ => rfl) rfl rfl)
        have HRB : Hid (R = if ((t.way.take c.ns c.nr (tw ++ vls)).2 = []) then ({ t with quiet := 0, way := (t.way.take c.ns c.nr (tw ++ vls)).1 }, []) else ({ t with quiet := 0, way := (t.way.take c.ns c.nr (tw ++ vls)).1 } : Tn).handle c) := by
          show _ = _
          rw [HRH.out, HBB.out, Tn.hear]
        obtain ⟨bw, ow, c9, hcw, hback⟩ := S6.out.m.at_.wayUp
        have HTK : Hid (CtlAt _ bw t.way ow) := hcw
        have HBK := Lib.hid hback
        obtain ⟨W0, hW0⟩ : ∃ W0, _ = W0 := ⟨(w6).setCell ⟨b, 17, none⟩ (.int .i64 0), rfl⟩
        rw [hW0] at S6 HTK HBK c9
        rw [hW0]
        have C9 := Lib.hid c9
        obtain ⟨qs, hqs⟩ : ∃ x, (t.way.take c.ns c.nr (tw ++ vls)).2 = x := ⟨_, rfl⟩
        obtain ⟨q1, hq1⟩ : ∃ x, (t.way.take c.ns c.nr (tw ++ vls)).1 = x := ⟨_, rfl⟩
        obtain ⟨nn, hnn⟩ : ∃ x, qs.length = x := ⟨_, rfl⟩
        have HNN := Lib.hid hnn
        have HTA : Hid (∀ W, CtlAt W bw t.way ow → Calls Tryz.prog 51 #[.pointer (some ⟨bw, 0, none⟩), .agg #[.int .i64 c.ns, .int .i64 c.nr, .string (tw ++ vls)]] W fun e w' =>
            (∃ ao cap, e = .returned (.slice ao nn cap)) ∧ CtlAt w' bw q1 ow ∧ Upd ow W w') := by
          intro W hW
          refine (take_at hW c.ns c.nr (tw ++ vls) HBL.out).mono ?_
          rintro e w' ⟨⟨v, ol, rfl, ho, -⟩, k2, k3⟩
          rw [hqs, hnn] at ho
          rw [hq1] at k2
          obtain ⟨ao, cap, rfl, -, -⟩ := ho.shape
          exact ⟨⟨ao, cap, rfl⟩, k2, k3⟩
        rw [hqs, hq1] at HRB
        clear hcw hback hW0 hqs hq1 hnn c9
        refine wp_region_chain [some (.pointer (some ⟨b, 0, none⟩)), some (.pointer (some ⟨b, 0, none⟩)), some (.pointer (some ⟨b, 9, none⟩)), some (.pointer (some ⟨bw, 0, none⟩)), some (.pointer (some ⟨g, 2, none⟩)), some (.int .i64 c.ns), some (.pointer (some ⟨g, 3, none⟩)), some (.int .i64 c.nr), some (.string (tw ++ vls)), some (.agg #[.int .i64 c.ns, .int .i64 c.nr, .string (tw ++ vls)]), none, some (.int .i64 nn), some (.bool ((nn : Int) == 0))] [10,11] (tkA W0 bw ow q1 nn) [(0, 0), (0, 0), (0, 0), (0, 0), (0, 0), (0, 0), (0, 0), (0, 0), (0, 0), (0, 0), (0, 0), (1, 1), (2, 2)] (by kernel_rfl) (by kernel_rfl) (by kernel_rfl) (by kernel_rfl) (by kernel_rfl) (by kernel_rfl) (((Upd.refl [] _).drew)) ?_ ?_
        · refine StepsC.cons ?_ (StepsC.cons ?_ (StepsC.cons ?_ (StepsC.cons ?_ (StepsC.cons ?_ (StepsC.cons ?_ (StepsC.cons ?_ (StepsC.cons ?_ (StepsC.cons ?_ (StepsC.cons ?_ (StepsC.cons ?_ (StepsC.cons ?_ (StepsC.cons ?_ StepsC.nil))))))))))))
          · refine chain_is _ (.inl rfl) ⟨_, rfl⟩ (by kernel_rfl) rfl ?_
            intro a W kst l0 h0 A0 hF hD
            have k0 : kst = 0 := Nat.le_antisymm h0 l0
            subst k0
            clear l0 h0
            have e0 : a.tmps[0]?.getD undef = _ := (ev a 0).symm.trans (hF 0 (by kernel_rfl))
            clear hF hD
            go_simp
          · refine chain_is _ (.inl rfl) ⟨_, rfl⟩ (by kernel_rfl) rfl ?_
            intro a W kst l0 h0 A0 hF hD
            have k0 : kst = 0 := Nat.le_antisymm h0 l0
            subst k0
            clear l0 h0
            have e93 : a.tmps[93]?.getD undef = .pointer (some ⟨b, 0, none⟩) := (ev a 93).symm.trans (hD _ (Array.mem_of_getElem? (i := 0) rfl) rfl)
            clear hF hD
            go_simp
          · refine chain_is _ (.inl rfl) ⟨_, rfl⟩ (by kernel_rfl) rfl ?_
            intro a W kst l0 h0 A0 hF hD
            have k0 : kst = 0 := Nat.le_antisymm h0 l0
            subst k0
            clear l0 h0
            have e94 : a.tmps[94]?.getD undef = .pointer (some ⟨b, 0, none⟩) := (ev a 94).symm.trans (hD _ (Array.mem_of_getElem? (i := 0) rfl) rfl)
            clear hF hD
            go_simp
          · refine chain_is _ (.inl rfl) ⟨_, rfl⟩ (by kernel_rfl) rfl ?_
            intro a W kst l0 h0 A0 hF hD
            have k0 : kst = 0 := Nat.le_antisymm h0 l0
            subst k0
            clear l0 h0
            have e95 : a.tmps[95]?.getD undef = .pointer (some ⟨b, 9, none⟩) := (ev a 95).symm.trans (hD _ (Array.mem_of_getElem? (i := 0) rfl) rfl)
            clear hF hD
            have hu : Upd [] W0 W := A0
            have hc := (hu.cell (cell_lt' C9.out) (by simp)).trans C9.out
            go_simp
          · refine chain_is _ (.inl rfl) ⟨_, rfl⟩ (by kernel_rfl) rfl ?_
            intro a W kst l0 h0 A0 hF hD
            have k0 : kst = 0 := Nat.le_antisymm h0 l0
            subst k0
            clear l0 h0
            have e5 : a.tmps[5]?.getD undef = _ := (ev a 5).symm.trans (hF 5 (by kernel_rfl))
            clear hF hD
            go_simp
          · refine chain_is _ (.inl rfl) ⟨_, rfl⟩ (by kernel_rfl) rfl ?_
            intro a W kst l0 h0 A0 hF hD
            have k0 : kst = 0 := Nat.le_antisymm h0 l0
            subst k0
            clear l0 h0
            have e97 : a.tmps[97]?.getD undef = .pointer (some ⟨g, 2, none⟩) := (ev a 97).symm.trans (hD _ (Array.mem_of_getElem? (i := 0) rfl) rfl)
            clear hF hD
            have hu : Upd [] W0 W := A0
            have hc := (S6.out.x.upd hu (by simp)).cell 2
            simp only [List.size_toArray, List.length_cons, List.length_nil, List.getElem?_toArray, List.getElem?_cons_zero, List.getElem?_cons_succ] at hc
            go_simp
          · refine chain_is _ (.inl rfl) ⟨_, rfl⟩ (by kernel_rfl) rfl ?_
            intro a W kst l0 h0 A0 hF hD
            have k0 : kst = 0 := Nat.le_antisymm h0 l0
            subst k0
            clear l0 h0
            have e5 : a.tmps[5]?.getD undef = _ := (ev a 5).symm.trans (hF 5 (by kernel_rfl))
            clear hF hD
            go_simp
          · refine chain_is _ (.inl rfl) ⟨_, rfl⟩ (by kernel_rfl) rfl ?_
            intro a W kst l0 h0 A0 hF hD
            have k0 : kst = 0 := Nat.le_antisymm h0 l0
            subst k0
            clear l0 h0
            have e99 : a.tmps[99]?.getD undef = .pointer (some ⟨g, 3, none⟩) := (ev a 99).symm.trans (hD _ (Array.mem_of_getElem? (i := 0) rfl) rfl)
            clear hF hD
            have hu : Upd [] W0 W := A0
            have hc := (S6.out.x.upd hu (by simp)).cell 3
            simp only [List.size_toArray, List.length_cons, List.length_nil, List.getElem?_toArray, List.getElem?_cons_zero, List.getElem?_cons_succ] at hc
            go_simp
          · refine chain_is _ (.inl rfl) ⟨_, rfl⟩ (by kernel_rfl) rfl ?_
            intro a W kst l0 h0 A0 hF hD
            have k0 : kst = 0 := Nat.le_antisymm h0 l0
            subst k0
            clear l0 h0
            have e8 : a.tmps[8]?.getD undef = _ := (ev a 8).symm.trans (hF 8 (by kernel_rfl))
            clear hF hD
            go_simp
          · refine chain_is _ (.inl rfl) ⟨_, rfl⟩ (by kernel_rfl) rfl ?_
            intro a W kst l0 h0 A0 hF hD
            have k0 : kst = 0 := Nat.le_antisymm h0 l0
            subst k0
            clear l0 h0
            have e98 : a.tmps[98]?.getD undef = .int .i64 c.ns := (ev a 98).symm.trans (hD _ (Array.mem_of_getElem? (i := 0) rfl) rfl)
            have e100 : a.tmps[100]?.getD undef = .int .i64 c.nr := (ev a 100).symm.trans (hD _ (Array.mem_of_getElem? (i := 1) rfl) rfl)
            have e101 : a.tmps[101]?.getD undef = .string (tw ++ vls) := (ev a 101).symm.trans (hD _ (Array.mem_of_getElem? (i := 2) rfl) rfl)
            clear hF hD
            go_simp
          · refine chain_call (.inl rfl) ⟨_, rfl⟩ (by kernel_rfl) ?_
            intro a W kst l0 h0 A0 hF hD
            have k0 : kst = 0 := Nat.le_antisymm h0 l0
            subst k0
            clear l0 h0
            have e96 : a.tmps[96]?.getD undef = .pointer (some ⟨bw, 0, none⟩) := (ev a 96).symm.trans (hD _ (Array.mem_of_getElem? (i := 0) rfl) rfl)
            have e102 : a.tmps[102]?.getD undef = .agg #[.int .i64 c.ns, .int .i64 c.nr, .string (tw ++ vls)] := (ev a 102).symm.trans (hD _ (Array.mem_of_getElem? (i := 1) rfl) rfl)
            clear hF hD
            have hu : Upd [] W0 W := A0
            refine ⟨_, _, by (go_simp; first | done | rfl | exact ⟨rfl, rfl⟩), ?_⟩
            refine (HTA.out _ (HTK.out.keep hu)).mono ?_
            rintro e wq ⟨⟨ao1, cap1, rfl⟩, k2, k3⟩
            exact ⟨_, rfl, trivial, ⟨ao1, cap1, rfl⟩, k2, (hu.mono (by simp)).trans k3⟩
          · refine chain_run (.inl rfl) ⟨_, rfl⟩ (by kernel_rfl) ?_
            intro a W kst l0 h0 A0 hF hD
            have k0 : kst = 1 := Nat.le_antisymm h0 l0
            subst k0
            clear l0 h0
            clear hF hD
            obtain ⟨⟨ao1, cap1, hv⟩, k2, k3⟩ := A0
            have e103 : a.tmps[103]?.getD undef = _ := (ev a 103).symm.trans hv
            exact ⟨_, W, by (go_simp; first | done | rfl), rfl, k2, k3⟩
          · refine chain_is _ (.inl rfl) ⟨_, rfl⟩ (by kernel_rfl) rfl ?_
            intro a W kst l0 h0 A0 hF hD
            have k0 : kst = 2 := Nat.le_antisymm h0 l0
            subst k0
            clear l0 h0
            have e104 : a.tmps[104]?.getD undef = .int .i64 nn := (ev a 104).symm.trans (hD _ (Array.mem_of_getElem? (i := 0) rfl) rfl)
            clear hF hD
            go_simp
        intro vals W hv hA
        have v0 : vals 0 = .pointer (some ⟨b, 0, none⟩) := hv 0 (by decide)
        have v1 : vals 1 = .pointer (some ⟨b, 0, none⟩) := hv 1 (by decide)
        have v2 : vals 2 = .pointer (some ⟨b, 9, none⟩) := hv 2 (by decide)
        have v3 : vals 3 = .pointer (some ⟨bw, 0, none⟩) := hv 3 (by decide)
        have v4 : vals 4 = .pointer (some ⟨g, 2, none⟩) := hv 4 (by decide)
        have v5 : vals 5 = .int .i64 c.ns := hv 5 (by decide)
        have v6 : vals 6 = .pointer (some ⟨g, 3, none⟩) := hv 6 (by decide)
        have v7 : vals 7 = .int .i64 c.nr := hv 7 (by decide)
        have v8 : vals 8 = .string (tw ++ vls) := hv 8 (by decide)
        have v9 : vals 9 = .agg #[.int .i64 c.ns, .int .i64 c.nr, .string (tw ++ vls)] := hv 9 (by decide)
        have v11 : vals 11 = .int .i64 nn := hv 11 (by decide)
        have v12 : vals 12 = .bool ((nn : Int) == 0) := hv 12 (by decide)
        clear hv
        obtain ⟨k2, k3⟩ := hA
        simp only [putAll, Act.put, Nat.zero_add, Nat.reduceAdd, v0, v1, v2, v3, v4, v5, v6, v7, v8, v9, v11, v12, List.setIfInBounds_toArray, List.set_cons_zero, List.set_cons_succ]
        clear v0 v1 v2 v3 v4 v5 v6 v7 v8 v9 v11 v12
        obtain ⟨⟨own7, z1, z2⟩, z3⟩ := HBK.out W q1 ow k2 (Grew.refl _ _) k3
        have S7 := Lib.hid (S6.out.next z1 z2 z3)
        clear k2 k3 z1 z2 z3
        by_cases hn0 : nn = 0
        · have HRZ : Hid (R = ({ t with quiet := 0, way := q1 }, [])) := by show _ = _; rw [HRB.out, if_pos (List.eq_nil_of_length_eq_zero (HNN.out.trans hn0))]
          subst hn0
          go_wp2_with fail
          go_ret
          rw [HRZ.out]
          exact TookEnd.nil (S7.out.ret (.slice none 0 0))
        · have HRZ : Hid (R = ({ t with quiet := 0, way := q1 } : Tn).handle c) := by show _ = _; rw [HRB.out, if_neg (by rintro rfl; exact hn0 (by rw [← HNN.out]; rfl))]
          have hnb : (((nn : Nat) : Int) == 0) = false := beq_false_of_ne (by omega)
          have HPT7 : Hid (({ t with quiet := 0, way := q1 } : Tn).secret.size ≤ 60 ∧ ({ t with quiet := 0, way := q1 } : Tn).asked.size ≤ 400000 ∧ ({ t with quiet := 0, way := q1 } : Tn).tape.asks ≤ 800000) := HPT.out
          generalize ({ t with quiet := 0, way := q1 } : Tn) = T7 at *
          have b0 := S7.out.x.cell 0
          have b1 := S7.out.x.cell 1
          have b2 := S7.out.x.cell 2
          have b3 := S7.out.x.cell 3
          have b4 := S7.out.x.cell 4
          simp only [List.size_toArray, List.length_cons, List.length_nil, List.getElem?_toArray, List.getElem?_cons_zero, List.getElem?_cons_succ] at b0 b1 b2 b3 b4
          have HH : Hid (∀ W own v, Msg W b T7 own v c.l ol → Calls Tryz.prog 52 #[.pointer (some ⟨b, 0, none⟩), c.val v] W (HandleEnd W b own v (T7.handle c))) := fun W own v h => thandle_any h HPT7.out.1 HPT7.out.2.1 HPT7.out.2.2
          simp only [Cm.val] at HH
          go_wp2_with fail
          refine (HH.out _ _ _ S7.out.m).mono ?_
          rintro e w8 ⟨⟨u, own8, rfl, y1, y2, y3⟩, y4⟩
          have HFIN := Lib.hid (S7.out.took HOF.out y1 y2 y3 y4)
          rw [← HRZ.out] at HFIN
          clear y1 y2 y4 HH
          rcases y3 with ⟨-, rfl⟩ | ⟨gm, m, -, rfl, -⟩
          all_goals
            go_wp2_with fail
            go_ret
            exact HFIN.out
    have z3 : (t.state != 0) = true := bne_iff_ne.2 q3
    by_cases q4 : t.state = 1
    case neg =>
      have z4 : (t.state != 1) = true := bne_iff_ne.2 q4
      have Q := Lib.hid (And.intro q0 (And.intro q3 q4))
      go_wp2_with fail
      go_quiet (fail)
      go_wp2_with fail
      go_ret
      rw [show R = (t, []) by rw [HR3.out, if_pos (by exact ⟨Q.out.1, .inr (.inr Q.out.2)⟩)]]
      exact TookEnd.nil ((S3.out.keep ((Upd.refl [] _).drewN _)).ret (.slice none 0 0))
    have z4 : (t.state != 1) = false := by rw [q4]; rfl
    have z5 : (t.state == 1) = true := by rw [q4]; rfl
    have HRY : Hid (R = if yb = false then (YT, []) else YT.hear c body) := by show _ = _; rw [HR3.out, if_neg (by rintro ⟨-, h | h | h⟩; exact h Q1.out; exact h Q2.out; exact h.2 q4), if_pos ⟨Q2.out, q4⟩]
    clear HR3 q3 q4
    go_wp2_with fail
    go_quiet (fail)
    rename_i nq
    obtain ⟨w4, hw4⟩ : ∃ w4, w3.drewN nq = w4 := ⟨_, rfl⟩
    have S4 : Hid (Whs w w4 b t own own (.slice ao ln cap) c ol g) := by show Whs _ _ _ _ _ _ _ _ _ _; rw [← hw4]; exact S3.out.keep ((Upd.refl _ _).drewN _)
    rw [hw4]
    clear hw4 c10 c2 b0 b1 b2 b3 b4
    have c10 := S4.out.m.at_.state
    have b0 := S4.out.x.cell 0
    have b1 := S4.out.x.cell 1
    have b2 := S4.out.x.cell 2
    have b3 := S4.out.x.cell 3
    have b4 := S4.out.x.cell 4
    simp only [List.size_toArray, List.length_cons, List.length_nil, List.getElem?_toArray, List.getElem?_cons_zero, List.getElem?_cons_succ] at b0 b1 b2 b3 b4
    go_wp2_with fail
    refine (HYI.out _ _ _ S4.out.m).mono ?_
    rintro e w9 ⟨rfl, ⟨own9, k1, k2⟩, k3⟩
    have S9 := Lib.hid (S4.out.next k1 k2 k3)
    clear k1 k2 k3
    cases yb
    · have HRZ : Hid (R = (YT, [])) := by show _ = _; rw [HRY.out, if_pos rfl]
      go_wp2_with fail
      go_ret
      rw [HRZ.out]
      exact TookEnd.nil (S9.out.ret (.slice none 0 0))
    · have HRH : Hid (R = YT.hear c body) := by show _ = _; rw [HRY.out, if_neg (by simp)]
      have HPT : Hid (YT.secret.size ≤ 60 ∧ YT.asked.size ≤ 400000 ∧ YT.tape.asks ≤ 800000) := by
        show _ ∧ _ ∧ _
        rw [show YT.secret = t.secret from HYK.out.secret, show YT.asked = t.asked from HYK.out.asked, show YT.tape = t.tape from HYK.out.tape]
        exact ⟨HP.out.1, HP.out.2.1, HP.out.2.2.1⟩
      clear HRY
      go_wp2_with fail
      refine (HVA.out _).mono ?_
      rintro e w5 ⟨rfl, u5⟩
      have S5 := Lib.hid (S9.out.keep u5)
      clear u5 c10 b0 b1 b2 b3 b4
      have b1 := S5.out.x.cell 1
      simp only [List.size_toArray, List.length_cons, List.length_nil, List.getElem?_toArray, List.getElem?_cons_zero, List.getElem?_cons_succ] at b1
      have c17 := S5.out.m.at_.cellAt 17 (.int .i64 YT.quiet) (fun _ _ => rfl)
      have f17 := S5.out.m.at_.frozen 17
      by_cases hv : vls.size = 0
      · have e0 := str_empty_t hv
        have HBB : Hid (body = ⟨#[]⟩) := HBE.out hv
        have HBL : Hid (((⟨#[]⟩ : ByteArray)).size ≤ 281474976710656) := by show ByteArray.size ⟨#[]⟩ ≤ _; exact Nat.zero_le _
        clear hv
        go_wp2_with fail
        have S6 := Lib.hid (S5.out.sets 17 (.int .i64 0) { YT with quiet := 0 } (fun _ _ => rfl) rfl rfl)
        have HRB : Hid (R = if ((YT.way.take c.ns c.nr (⟨#[]⟩ : ByteArray)).2 = []) then ({ YT with quiet := 0, way := (YT.way.take c.ns c.nr (⟨#[]⟩ : ByteArray)).1 }, []) else ({ YT with quiet := 0, way := (YT.way.take c.ns c.nr (⟨#[]⟩ : ByteArray)).1 } : Tn).handle c) := by
          show _ = _
          rw [HRH.out, HBB.out, Tn.hear]
        obtain ⟨bw, ow, c9, hcw, hback⟩ := S6.out.m.at_.wayUp
        have HTK : Hid (CtlAt _ bw YT.way ow) := hcw
        have HBK := Lib.hid hback
        obtain ⟨W0, hW0⟩ : ∃ W0, _ = W0 := ⟨(w5).setCell ⟨b, 17, none⟩ (.int .i64 0), rfl⟩
        rw [hW0] at S6 HTK HBK c9
        rw [hW0]
        have C9 := Lib.hid c9
        obtain ⟨qs, hqs⟩ : ∃ x, (YT.way.take c.ns c.nr (⟨#[]⟩ : ByteArray)).2 = x := ⟨_, rfl⟩
        obtain ⟨q1, hq1⟩ : ∃ x, (YT.way.take c.ns c.nr (⟨#[]⟩ : ByteArray)).1 = x := ⟨_, rfl⟩
        obtain ⟨nn, hnn⟩ : ∃ x, qs.length = x := ⟨_, rfl⟩
        have HNN := Lib.hid hnn
        have HTA : Hid (∀ W, CtlAt W bw YT.way ow → Calls Tryz.prog 51 #[.pointer (some ⟨bw, 0, none⟩), .agg #[.int .i64 c.ns, .int .i64 c.nr, .string (⟨#[]⟩ : ByteArray)]] W fun e w' =>
            (∃ ao cap, e = .returned (.slice ao nn cap)) ∧ CtlAt w' bw q1 ow ∧ Upd ow W w') := by
          intro W hW
          refine (take_at hW c.ns c.nr (⟨#[]⟩ : ByteArray) HBL.out).mono ?_
          rintro e w' ⟨⟨v, ol, rfl, ho, -⟩, k2, k3⟩
          rw [hqs, hnn] at ho
          rw [hq1] at k2
          obtain ⟨ao, cap, rfl, -, -⟩ := ho.shape
          exact ⟨⟨ao, cap, rfl⟩, k2, k3⟩
        rw [hqs, hq1] at HRB
        clear hcw hback hW0 hqs hq1 hnn c9
        refine wp_region_chain [some (.pointer (some ⟨b, 0, none⟩)), some (.pointer (some ⟨b, 0, none⟩)), some (.pointer (some ⟨b, 9, none⟩)), some (.pointer (some ⟨bw, 0, none⟩)), some (.pointer (some ⟨g, 2, none⟩)), some (.int .i64 c.ns), some (.pointer (some ⟨g, 3, none⟩)), some (.int .i64 c.nr), some (.string (⟨#[]⟩ : ByteArray)), some (.agg #[.int .i64 c.ns, .int .i64 c.nr, .string (⟨#[]⟩ : ByteArray)]), none, some (.int .i64 nn), some (.bool ((nn : Int) == 0))] [10,11] (tkA W0 bw ow q1 nn) [(0, 0), (0, 0), (0, 0), (0, 0), (0, 0), (0, 0), (0, 0), (0, 0), (0, 0), (0, 0), (0, 0), (1, 1), (2, 2)] (by kernel_rfl) (by kernel_rfl) (by kernel_rfl) (by kernel_rfl) (by kernel_rfl) (by kernel_rfl) (((Upd.refl [] _).drew)) ?_ ?_
        · refine StepsC.cons ?_ (StepsC.cons ?_ (StepsC.cons ?_ (StepsC.cons ?_ (StepsC.cons ?_ (StepsC.cons ?_ (StepsC.cons ?_ (StepsC.cons ?_ (StepsC.cons ?_ (StepsC.cons ?_ (StepsC.cons ?_ (StepsC.cons ?_ (StepsC.cons ?_ StepsC.nil))))))))))))
          · refine chain_is _ (.inl rfl) ⟨_, rfl⟩ (by kernel_rfl) rfl ?_
            intro a W kst l0 h0 A0 hF hD
            have k0 : kst = 0 := Nat.le_antisymm h0 l0
            subst k0
            clear l0 h0
            have e0 : a.tmps[0]?.getD undef = _ := (ev a 0).symm.trans (hF 0 (by kernel_rfl))
            clear hF hD
            go_simp
          · refine chain_is _ (.inl rfl) ⟨_, rfl⟩ (by kernel_rfl) rfl ?_
            intro a W kst l0 h0 A0 hF hD
            have k0 : kst = 0 := Nat.le_antisymm h0 l0
            subst k0
            clear l0 h0
            have e93 : a.tmps[93]?.getD undef = .pointer (some ⟨b, 0, none⟩) := (ev a 93).symm.trans (hD _ (Array.mem_of_getElem? (i := 0) rfl) rfl)
            clear hF hD
            go_simp
          · refine chain_is _ (.inl rfl) ⟨_, rfl⟩ (by kernel_rfl) rfl ?_
            intro a W kst l0 h0 A0 hF hD
            have k0 : kst = 0 := Nat.le_antisymm h0 l0
            subst k0
            clear l0 h0
            have e94 : a.tmps[94]?.getD undef = .pointer (some ⟨b, 0, none⟩) := (ev a 94).symm.trans (hD _ (Array.mem_of_getElem? (i := 0) rfl) rfl)
            clear hF hD
            go_simp
          · refine chain_is _ (.inl rfl) ⟨_, rfl⟩ (by kernel_rfl) rfl ?_
            intro a W kst l0 h0 A0 hF hD
            have k0 : kst = 0 := Nat.le_antisymm h0 l0
            subst k0
            clear l0 h0
            have e95 : a.tmps[95]?.getD undef = .pointer (some ⟨b, 9, none⟩) := (ev a 95).symm.trans (hD _ (Array.mem_of_getElem? (i := 0) rfl) rfl)
            clear hF hD
            have hu : Upd [] W0 W := A0
            have hc := (hu.cell (cell_lt' C9.out) (by simp)).trans C9.out
            go_simp
          · refine chain_is _ (.inl rfl) ⟨_, rfl⟩ (by kernel_rfl) rfl ?_
            intro a W kst l0 h0 A0 hF hD
            have k0 : kst = 0 := Nat.le_antisymm h0 l0
            subst k0
            clear l0 h0
            have e5 : a.tmps[5]?.getD undef = _ := (ev a 5).symm.trans (hF 5 (by kernel_rfl))
            clear hF hD
            go_simp
          · refine chain_is _ (.inl rfl) ⟨_, rfl⟩ (by kernel_rfl) rfl ?_
            intro a W kst l0 h0 A0 hF hD
            have k0 : kst = 0 := Nat.le_antisymm h0 l0
            subst k0
            clear l0 h0
            have e97 : a.tmps[97]?.getD undef = .pointer (some ⟨g, 2, none⟩) := (ev a 97).symm.trans (hD _ (Array.mem_of_getElem? (i := 0) rfl) rfl)
            clear hF hD
            have hu : Upd [] W0 W := A0
            have hc := (S6.out.x.upd hu (by simp)).cell 2
            simp only [List.size_toArray, List.length_cons, List.length_nil, List.getElem?_toArray, List.getElem?_cons_zero, List.getElem?_cons_succ] at hc
            go_simp
          · refine chain_is _ (.inl rfl) ⟨_, rfl⟩ (by kernel_rfl) rfl ?_
            intro a W kst l0 h0 A0 hF hD
            have k0 : kst = 0 := Nat.le_antisymm h0 l0
            subst k0
            clear l0 h0
            have e5 : a.tmps[5]?.getD undef = _ := (ev a 5).symm.trans (hF 5 (by kernel_rfl))
            clear hF hD
            go_simp
          · refine chain_is _ (.inl rfl) ⟨_, rfl⟩ (by kernel_rfl) rfl ?_
            intro a W kst l0 h0 A0 hF hD
            have k0 : kst = 0 := Nat.le_antisymm h0 l0
            subst k0
            clear l0 h0
            have e99 : a.tmps[99]?.getD undef = .pointer (some ⟨g, 3, none⟩) := (ev a 99).symm.trans (hD _ (Array.mem_of_getElem? (i := 0) rfl) rfl)
            clear hF hD
            have hu : Upd [] W0 W := A0
            have hc := (S6.out.x.upd hu (by simp)).cell 3
            simp only [List.size_toArray, List.length_cons, List.length_nil, List.getElem?_toArray, List.getElem?_cons_zero, List.getElem?_cons_succ] at hc
            go_simp
          · refine chain_is _ (.inl rfl) ⟨_, rfl⟩ (by kernel_rfl) rfl ?_
            intro a W kst l0 h0 A0 hF hD
            have k0 : kst = 0 := Nat.le_antisymm h0 l0
            subst k0
            clear l0 h0
            have e8 : a.tmps[8]?.getD undef = _ := (ev a 8).symm.trans (hF 8 (by kernel_rfl))
            clear hF hD
            go_simp
          · refine chain_is _ (.inl rfl) ⟨_, rfl⟩ (by kernel_rfl) rfl ?_
            intro a W kst l0 h0 A0 hF hD
            have k0 : kst = 0 := Nat.le_antisymm h0 l0
            subst k0
            clear l0 h0
            have e98 : a.tmps[98]?.getD undef = .int .i64 c.ns := (ev a 98).symm.trans (hD _ (Array.mem_of_getElem? (i := 0) rfl) rfl)
            have e100 : a.tmps[100]?.getD undef = .int .i64 c.nr := (ev a 100).symm.trans (hD _ (Array.mem_of_getElem? (i := 1) rfl) rfl)
            have e101 : a.tmps[101]?.getD undef = .string (⟨#[]⟩ : ByteArray) := (ev a 101).symm.trans (hD _ (Array.mem_of_getElem? (i := 2) rfl) rfl)
            clear hF hD
            go_simp
          · refine chain_call (.inl rfl) ⟨_, rfl⟩ (by kernel_rfl) ?_
            intro a W kst l0 h0 A0 hF hD
            have k0 : kst = 0 := Nat.le_antisymm h0 l0
            subst k0
            clear l0 h0
            have e96 : a.tmps[96]?.getD undef = .pointer (some ⟨bw, 0, none⟩) := (ev a 96).symm.trans (hD _ (Array.mem_of_getElem? (i := 0) rfl) rfl)
            have e102 : a.tmps[102]?.getD undef = .agg #[.int .i64 c.ns, .int .i64 c.nr, .string (⟨#[]⟩ : ByteArray)] := (ev a 102).symm.trans (hD _ (Array.mem_of_getElem? (i := 1) rfl) rfl)
            clear hF hD
            have hu : Upd [] W0 W := A0
            refine ⟨_, _, by (go_simp; first | done | rfl | exact ⟨rfl, rfl⟩), ?_⟩
            refine (HTA.out _ (HTK.out.keep hu)).mono ?_
            rintro e wq ⟨⟨ao1, cap1, rfl⟩, k2, k3⟩
            exact ⟨_, rfl, trivial, ⟨ao1, cap1, rfl⟩, k2, (hu.mono (by simp)).trans k3⟩
          · refine chain_run (.inl rfl) ⟨_, rfl⟩ (by kernel_rfl) ?_
            intro a W kst l0 h0 A0 hF hD
            have k0 : kst = 1 := Nat.le_antisymm h0 l0
            subst k0
            clear l0 h0
            clear hF hD
            obtain ⟨⟨ao1, cap1, hv⟩, k2, k3⟩ := A0
            have e103 : a.tmps[103]?.getD undef = _ := (ev a 103).symm.trans hv
            exact ⟨_, W, by (go_simp; first | done | rfl), rfl, k2, k3⟩
          · refine chain_is _ (.inl rfl) ⟨_, rfl⟩ (by kernel_rfl) rfl ?_
            intro a W kst l0 h0 A0 hF hD
            have k0 : kst = 2 := Nat.le_antisymm h0 l0
            subst k0
            clear l0 h0
            have e104 : a.tmps[104]?.getD undef = .int .i64 nn := (ev a 104).symm.trans (hD _ (Array.mem_of_getElem? (i := 0) rfl) rfl)
            clear hF hD
            go_simp
        intro vals W hv hA
        have v0 : vals 0 = .pointer (some ⟨b, 0, none⟩) := hv 0 (by decide)
        have v1 : vals 1 = .pointer (some ⟨b, 0, none⟩) := hv 1 (by decide)
        have v2 : vals 2 = .pointer (some ⟨b, 9, none⟩) := hv 2 (by decide)
        have v3 : vals 3 = .pointer (some ⟨bw, 0, none⟩) := hv 3 (by decide)
        have v4 : vals 4 = .pointer (some ⟨g, 2, none⟩) := hv 4 (by decide)
        have v5 : vals 5 = .int .i64 c.ns := hv 5 (by decide)
        have v6 : vals 6 = .pointer (some ⟨g, 3, none⟩) := hv 6 (by decide)
        have v7 : vals 7 = .int .i64 c.nr := hv 7 (by decide)
        have v8 : vals 8 = .string (⟨#[]⟩ : ByteArray) := hv 8 (by decide)
        have v9 : vals 9 = .agg #[.int .i64 c.ns, .int .i64 c.nr, .string (⟨#[]⟩ : ByteArray)] := hv 9 (by decide)
        have v11 : vals 11 = .int .i64 nn := hv 11 (by decide)
        have v12 : vals 12 = .bool ((nn : Int) == 0) := hv 12 (by decide)
        clear hv
        obtain ⟨k2, k3⟩ := hA
        simp only [putAll, Act.put, Nat.zero_add, Nat.reduceAdd, v0, v1, v2, v3, v4, v5, v6, v7, v8, v9, v11, v12, List.setIfInBounds_toArray, List.set_cons_zero, List.set_cons_succ]
        clear v0 v1 v2 v3 v4 v5 v6 v7 v8 v9 v11 v12
        obtain ⟨⟨own7, z1, z2⟩, z3⟩ := HBK.out W q1 ow k2 (Grew.refl _ _) k3
        have S7 := Lib.hid (S6.out.next z1 z2 z3)
        clear k2 k3 z1 z2 z3
        by_cases hn0 : nn = 0
        · have HRZ : Hid (R = ({ YT with quiet := 0, way := q1 }, [])) := by show _ = _; rw [HRB.out, if_pos (List.eq_nil_of_length_eq_zero (HNN.out.trans hn0))]
          subst hn0
          go_wp2_with fail
          go_ret
          rw [HRZ.out]
          exact TookEnd.nil (S7.out.ret (.slice none 0 0))
        · have HRZ : Hid (R = ({ YT with quiet := 0, way := q1 } : Tn).handle c) := by show _ = _; rw [HRB.out, if_neg (by rintro rfl; exact hn0 (by rw [← HNN.out]; rfl))]
          have hnb : (((nn : Nat) : Int) == 0) = false := beq_false_of_ne (by omega)
          have HPT7 : Hid (({ YT with quiet := 0, way := q1 } : Tn).secret.size ≤ 60 ∧ ({ YT with quiet := 0, way := q1 } : Tn).asked.size ≤ 400000 ∧ ({ YT with quiet := 0, way := q1 } : Tn).tape.asks ≤ 800000) := HPT.out
          generalize ({ YT with quiet := 0, way := q1 } : Tn) = T7 at *
          have b0 := S7.out.x.cell 0
          have b1 := S7.out.x.cell 1
          have b2 := S7.out.x.cell 2
          have b3 := S7.out.x.cell 3
          have b4 := S7.out.x.cell 4
          simp only [List.size_toArray, List.length_cons, List.length_nil, List.getElem?_toArray, List.getElem?_cons_zero, List.getElem?_cons_succ] at b0 b1 b2 b3 b4
          have HH : Hid (∀ W own v, Msg W b T7 own v c.l ol → Calls Tryz.prog 52 #[.pointer (some ⟨b, 0, none⟩), c.val v] W (HandleEnd W b own v (T7.handle c))) := fun W own v h => thandle_any h HPT7.out.1 HPT7.out.2.1 HPT7.out.2.2
          simp only [Cm.val] at HH
          go_wp2_with fail
          refine (HH.out _ _ _ S7.out.m).mono ?_
          rintro e w8 ⟨⟨u, own8, rfl, y1, y2, y3⟩, y4⟩
          have HFIN := Lib.hid (S7.out.took HOF.out y1 y2 y3 y4)
          rw [← HRZ.out] at HFIN
          clear y1 y2 y4 HH
          rcases y3 with ⟨-, rfl⟩ | ⟨gm, m, -, rfl, -⟩
          all_goals
            go_wp2_with fail
            go_ret
            exact HFIN.out
      · have e0 := str_empty_f hv
        have HBB : Hid (body = be 2 c.s ++ vls) := (HBF.out hv).1
        have HVL : Hid (vls.size ≤ 400000) := (HBF.out hv).2
        clear hv
        go_wp2_with fail
        refine (HTW.out _).mono ?_
        have htz : (be 2 c.s).size = 2 := be_size 2 c.s
        generalize be 2 c.s = tw at *
        rintro e w6 ⟨rfl, u6⟩
        have S5 := Lib.hid (S5.out.keep u6)
        have HBL : Hid ((tw ++ vls).size ≤ 281474976710656) := by show _ ≤ _; rw [ByteArray.size_append]; have := HVL.out; omega
        have hcat := run_string_add_sum (P := Tryz.prog) w6 tw vls (by have := HVL.out; omega)
        have c17 := S5.out.m.at_.cellAt 17 (.int .i64 YT.quiet) (fun _ _ => rfl)
        have f17 := S5.out.m.at_.frozen 17
        clear u6 htz
        go_wp2_with fail
        clear hcat
        have S6 := Lib.hid (S5.out.sets 17 (.int .i64 0) { YT with quiet := 0 } (fun _ _ => rfl) rfl rfl)
        have HRB : Hid (R = if ((YT.way.take c.ns c.nr (tw ++ vls)).2 = []) then ({ YT with quiet := 0, way := (YT.way.take c.ns c.nr (tw ++ vls)).1 }, []) else ({ YT with quiet := 0, way := (YT.way.take c.ns c.nr (tw ++ vls)).1 } : Tn).handle c) := by
          show _ = _
          rw [HRH.out, HBB.out, Tn.hear]
        obtain ⟨bw, ow, c9, hcw, hback⟩ := S6.out.m.at_.wayUp
        have HTK : Hid (CtlAt _ bw YT.way ow) := hcw
        have HBK := Lib.hid hback
        obtain ⟨W0, hW0⟩ : ∃ W0, _ = W0 := ⟨(w6).setCell ⟨b, 17, none⟩ (.int .i64 0), rfl⟩
        rw [hW0] at S6 HTK HBK c9
        rw [hW0]
        have C9 := Lib.hid c9
        obtain ⟨qs, hqs⟩ : ∃ x, (YT.way.take c.ns c.nr (tw ++ vls)).2 = x := ⟨_, rfl⟩
        obtain ⟨q1, hq1⟩ : ∃ x, (YT.way.take c.ns c.nr (tw ++ vls)).1 = x := ⟨_, rfl⟩
        obtain ⟨nn, hnn⟩ : ∃ x, qs.length = x := ⟨_, rfl⟩
        have HNN := Lib.hid hnn
        have HTA : Hid (∀ W, CtlAt W bw YT.way ow → Calls Tryz.prog 51 #[.pointer (some ⟨bw, 0, none⟩), .agg #[.int .i64 c.ns, .int .i64 c.nr, .string (tw ++ vls)]] W fun e w' =>
            (∃ ao cap, e = .returned (.slice ao nn cap)) ∧ CtlAt w' bw q1 ow ∧ Upd ow W w') := by
          intro W hW
          refine (take_at hW c.ns c.nr (tw ++ vls) HBL.out).mono ?_
          rintro e w' ⟨⟨v, ol, rfl, ho, -⟩, k2, k3⟩
          rw [hqs, hnn] at ho
          rw [hq1] at k2
          obtain ⟨ao, cap, rfl, -, -⟩ := ho.shape
          exact ⟨⟨ao, cap, rfl⟩, k2, k3⟩
        rw [hqs, hq1] at HRB
        clear hcw hback hW0 hqs hq1 hnn c9
        refine wp_region_chain [some (.pointer (some ⟨b, 0, none⟩)), some (.pointer (some ⟨b, 0, none⟩)), some (.pointer (some ⟨b, 9, none⟩)), some (.pointer (some ⟨bw, 0, none⟩)), some (.pointer (some ⟨g, 2, none⟩)), some (.int .i64 c.ns), some (.pointer (some ⟨g, 3, none⟩)), some (.int .i64 c.nr), some (.string (tw ++ vls)), some (.agg #[.int .i64 c.ns, .int .i64 c.nr, .string (tw ++ vls)]), none, some (.int .i64 nn), some (.bool ((nn : Int) == 0))] [10,11] (tkA W0 bw ow q1 nn) [(0, 0), (0, 0), (0, 0), (0, 0), (0, 0), (0, 0), (0, 0), (0, 0), (0, 0), (0, 0), (0, 0), (1, 1), (2, 2)] (by kernel_rfl) (by kernel_rfl) (by kernel_rfl) (by kernel_rfl) (by kernel_rfl) (by kernel_rfl) (((Upd.refl [] _).drew)) ?_ ?_
        · refine StepsC.cons ?_ (StepsC.cons ?_ (StepsC.cons ?_ (StepsC.cons ?_ (StepsC.cons ?_ (StepsC.cons ?_ (StepsC.cons ?_ (StepsC.cons ?_ (StepsC.cons ?_ (StepsC.cons ?_ (StepsC.cons ?_ (StepsC.cons ?_ (StepsC.cons ?_ StepsC.nil))))))))))))
          · refine chain_is _ (.inl rfl) ⟨_, rfl⟩ (by kernel_rfl) rfl ?_
            intro a W kst l0 h0 A0 hF hD
            have k0 : kst = 0 := Nat.le_antisymm h0 l0
            subst k0
            clear l0 h0
            have e0 : a.tmps[0]?.getD undef = _ := (ev a 0).symm.trans (hF 0 (by kernel_rfl))
            clear hF hD
            go_simp
          · refine chain_is _ (.inl rfl) ⟨_, rfl⟩ (by kernel_rfl) rfl ?_
            intro a W kst l0 h0 A0 hF hD
            have k0 : kst = 0 := Nat.le_antisymm h0 l0
            subst k0
            clear l0 h0
            have e93 : a.tmps[93]?.getD undef = .pointer (some ⟨b, 0, none⟩) := (ev a 93).symm.trans (hD _ (Array.mem_of_getElem? (i := 0) rfl) rfl)
            clear hF hD
            go_simp
          · refine chain_is _ (.inl rfl) ⟨_, rfl⟩ (by kernel_rfl) rfl ?_
            intro a W kst l0 h0 A0 hF hD
            have k0 : kst = 0 := Nat.le_antisymm h0 l0
            subst k0
            clear l0 h0
            have e94 : a.tmps[94]?.getD undef = .pointer (some ⟨b, 0, none⟩) := (ev a 94).symm.trans (hD _ (Array.mem_of_getElem? (i := 0) rfl) rfl)
            clear hF hD
            go_simp
          · refine chain_is _ (.inl rfl) ⟨_, rfl⟩ (by kernel_rfl) rfl ?_
            intro a W kst l0 h0 A0 hF hD
            have k0 : kst = 0 := Nat.le_antisymm h0 l0
            subst k0
            clear l0 h0
            have e95 : a.tmps[95]?.getD undef = .pointer (some ⟨b, 9, none⟩) := (ev a 95).symm.trans (hD _ (Array.mem_of_getElem? (i := 0) rfl) rfl)
            clear hF hD
            have hu : Upd [] W0 W := A0
            have hc := (hu.cell (cell_lt' C9.out) (by simp)).trans C9.out
            go_simp
          · refine chain_is _ (.inl rfl) ⟨_, rfl⟩ (by kernel_rfl) rfl ?_
            intro a W kst l0 h0 A0 hF hD
            have k0 : kst = 0 := Nat.le_antisymm h0 l0
            subst k0
            clear l0 h0
            have e5 : a.tmps[5]?.getD undef = _ := (ev a 5).symm.trans (hF 5 (by kernel_rfl))
            clear hF hD
            go_simp
          · refine chain_is _ (.inl rfl) ⟨_, rfl⟩ (by kernel_rfl) rfl ?_
            intro a W kst l0 h0 A0 hF hD
            have k0 : kst = 0 := Nat.le_antisymm h0 l0
            subst k0
            clear l0 h0
            have e97 : a.tmps[97]?.getD undef = .pointer (some ⟨g, 2, none⟩) := (ev a 97).symm.trans (hD _ (Array.mem_of_getElem? (i := 0) rfl) rfl)
            clear hF hD
            have hu : Upd [] W0 W := A0
            have hc := (S6.out.x.upd hu (by simp)).cell 2
            simp only [List.size_toArray, List.length_cons, List.length_nil, List.getElem?_toArray, List.getElem?_cons_zero, List.getElem?_cons_succ] at hc
            go_simp
          · refine chain_is _ (.inl rfl) ⟨_, rfl⟩ (by kernel_rfl) rfl ?_
            intro a W kst l0 h0 A0 hF hD
            have k0 : kst = 0 := Nat.le_antisymm h0 l0
            subst k0
            clear l0 h0
            have e5 : a.tmps[5]?.getD undef = _ := (ev a 5).symm.trans (hF 5 (by kernel_rfl))
            clear hF hD
            go_simp
          · refine chain_is _ (.inl rfl) ⟨_, rfl⟩ (by kernel_rfl) rfl ?_
            intro a W kst l0 h0 A0 hF hD
            have k0 : kst = 0 := Nat.le_antisymm h0 l0
            subst k0
            clear l0 h0
            have e99 : a.tmps[99]?.getD undef = .pointer (some ⟨g, 3, none⟩) := (ev a 99).symm.trans (hD _ (Array.mem_of_getElem? (i := 0) rfl) rfl)
            clear hF hD
            have hu : Upd [] W0 W := A0
            have hc := (S6.out.x.upd hu (by simp)).cell 3
            simp only [List.size_toArray, List.length_cons, List.length_nil, List.getElem?_toArray, List.getElem?_cons_zero, List.getElem?_cons_succ] at hc
            go_simp
          · refine chain_is _ (.inl rfl) ⟨_, rfl⟩ (by kernel_rfl) rfl ?_
            intro a W kst l0 h0 A0 hF hD
            have k0 : kst = 0 := Nat.le_antisymm h0 l0
            subst k0
            clear l0 h0
            have e8 : a.tmps[8]?.getD undef = _ := (ev a 8).symm.trans (hF 8 (by kernel_rfl))
            clear hF hD
            go_simp
          · refine chain_is _ (.inl rfl) ⟨_, rfl⟩ (by kernel_rfl) rfl ?_
            intro a W kst l0 h0 A0 hF hD
            have k0 : kst = 0 := Nat.le_antisymm h0 l0
            subst k0
            clear l0 h0
            have e98 : a.tmps[98]?.getD undef = .int .i64 c.ns := (ev a 98).symm.trans (hD _ (Array.mem_of_getElem? (i := 0) rfl) rfl)
            have e100 : a.tmps[100]?.getD undef = .int .i64 c.nr := (ev a 100).symm.trans (hD _ (Array.mem_of_getElem? (i := 1) rfl) rfl)
            have e101 : a.tmps[101]?.getD undef = .string (tw ++ vls) := (ev a 101).symm.trans (hD _ (Array.mem_of_getElem? (i := 2) rfl) rfl)
            clear hF hD
            go_simp
          · refine chain_call (.inl rfl) ⟨_, rfl⟩ (by kernel_rfl) ?_
            intro a W kst l0 h0 A0 hF hD
            have k0 : kst = 0 := Nat.le_antisymm h0 l0
            subst k0
            clear l0 h0
            have e96 : a.tmps[96]?.getD undef = .pointer (some ⟨bw, 0, none⟩) := (ev a 96).symm.trans (hD _ (Array.mem_of_getElem? (i := 0) rfl) rfl)
            have e102 : a.tmps[102]?.getD undef = .agg #[.int .i64 c.ns, .int .i64 c.nr, .string (tw ++ vls)] := (ev a 102).symm.trans (hD _ (Array.mem_of_getElem? (i := 1) rfl) rfl)
            clear hF hD
            have hu : Upd [] W0 W := A0
            refine ⟨_, _, by (go_simp; first | done | rfl | exact ⟨rfl, rfl⟩), ?_⟩
            refine (HTA.out _ (HTK.out.keep hu)).mono ?_
            rintro e wq ⟨⟨ao1, cap1, rfl⟩, k2, k3⟩
            exact ⟨_, rfl, trivial, ⟨ao1, cap1, rfl⟩, k2, (hu.mono (by simp)).trans k3⟩
          · refine chain_run (.inl rfl) ⟨_, rfl⟩ (by kernel_rfl) ?_
            intro a W kst l0 h0 A0 hF hD
            have k0 : kst = 1 := Nat.le_antisymm h0 l0
            subst k0
            clear l0 h0
            clear hF hD
            obtain ⟨⟨ao1, cap1, hv⟩, k2, k3⟩ := A0
            have e103 : a.tmps[103]?.getD undef = _ := (ev a 103).symm.trans hv
            exact ⟨_, W, by (go_simp; first | done | rfl), rfl, k2, k3⟩
          · refine chain_is _ (.inl rfl) ⟨_, rfl⟩ (by kernel_rfl) rfl ?_
            intro a W kst l0 h0 A0 hF hD
            have k0 : kst = 2 := Nat.le_antisymm h0 l0
            subst k0
            clear l0 h0
            have e104 : a.tmps[104]?.getD undef = .int .i64 nn := (ev a 104).symm.trans (hD _ (Array.mem_of_getElem? (i := 0) rfl) rfl)
            clear hF hD
            go_simp
        intro vals W hv hA
        have v0 : vals 0 = .pointer (some ⟨b, 0, none⟩) := hv 0 (by decide)
        have v1 : vals 1 = .pointer (some ⟨b, 0, none⟩) := hv 1 (by decide)
        have v2 : vals 2 = .pointer (some ⟨b, 9, none⟩) := hv 2 (by decide)
        have v3 : vals 3 = .pointer (some ⟨bw, 0, none⟩) := hv 3 (by decide)
        have v4 : vals 4 = .pointer (some ⟨g, 2, none⟩) := hv 4 (by decide)
        have v5 : vals 5 = .int .i64 c.ns := hv 5 (by decide)
        have v6 : vals 6 = .pointer (some ⟨g, 3, none⟩) := hv 6 (by decide)
        have v7 : vals 7 = .int .i64 c.nr := hv 7 (by decide)
        have v8 : vals 8 = .string (tw ++ vls) := hv 8 (by decide)
        have v9 : vals 9 = .agg #[.int .i64 c.ns, .int .i64 c.nr, .string (tw ++ vls)] := hv 9 (by decide)
        have v11 : vals 11 = .int .i64 nn := hv 11 (by decide)
        have v12 : vals 12 = .bool ((nn : Int) == 0) := hv 12 (by decide)
        clear hv
        obtain ⟨k2, k3⟩ := hA
        simp only [putAll, Act.put, Nat.zero_add, Nat.reduceAdd, v0, v1, v2, v3, v4, v5, v6, v7, v8, v9, v11, v12, List.setIfInBounds_toArray, List.set_cons_zero, List.set_cons_succ]
        clear v0 v1 v2 v3 v4 v5 v6 v7 v8 v9 v11 v12
        obtain ⟨⟨own7, z1, z2⟩, z3⟩ := HBK.out W q1 ow k2 (Grew.refl _ _) k3
        have S7 := Lib.hid (S6.out.next z1 z2 z3)
        clear k2 k3 z1 z2 z3
        by_cases hn0 : nn = 0
        · have HRZ : Hid (R = ({ YT with quiet := 0, way := q1 }, [])) := by show _ = _; rw [HRB.out, if_pos (List.eq_nil_of_length_eq_zero (HNN.out.trans hn0))]
          subst hn0
          go_wp2_with fail
          go_ret
          rw [HRZ.out]
          exact TookEnd.nil (S7.out.ret (.slice none 0 0))
        · have HRZ : Hid (R = ({ YT with quiet := 0, way := q1 } : Tn).handle c) := by show _ = _; rw [HRB.out, if_neg (by rintro rfl; exact hn0 (by rw [← HNN.out]; rfl))]
          have hnb : (((nn : Nat) : Int) == 0) = false := beq_false_of_ne (by omega)
          have HPT7 : Hid (({ YT with quiet := 0, way := q1 } : Tn).secret.size ≤ 60 ∧ ({ YT with quiet := 0, way := q1 } : Tn).asked.size ≤ 400000 ∧ ({ YT with quiet := 0, way := q1 } : Tn).tape.asks ≤ 800000) := HPT.out
          generalize ({ YT with quiet := 0, way := q1 } : Tn) = T7 at *
          have b0 := S7.out.x.cell 0
          have b1 := S7.out.x.cell 1
          have b2 := S7.out.x.cell 2
          have b3 := S7.out.x.cell 3
          have b4 := S7.out.x.cell 4
          simp only [List.size_toArray, List.length_cons, List.length_nil, List.getElem?_toArray, List.getElem?_cons_zero, List.getElem?_cons_succ] at b0 b1 b2 b3 b4
          have HH : Hid (∀ W own v, Msg W b T7 own v c.l ol → Calls Tryz.prog 52 #[.pointer (some ⟨b, 0, none⟩), c.val v] W (HandleEnd W b own v (T7.handle c))) := fun W own v h => thandle_any h HPT7.out.1 HPT7.out.2.1 HPT7.out.2.2
          simp only [Cm.val] at HH
          go_wp2_with fail
          refine (HH.out _ _ _ S7.out.m).mono ?_
          rintro e w8 ⟨⟨u, own8, rfl, y1, y2, y3⟩, y4⟩
          have HFIN := Lib.hid (S7.out.took HOF.out y1 y2 y3 y4)
          rw [← HRZ.out] at HFIN
          clear y1 y2 y4 HH
          rcases y3 with ⟨-, rfl⟩ | ⟨gm, m, -, rfl, -⟩
          all_goals
            go_wp2_with fail
            go_ret
            exact HFIN.out
  have z0 : (c.t != t.cid) = false := by rw [q0]; simp
  by_cases q2 : kd = 1
  case neg =>
    have z2 : (kd == 1) = false := beq_false_of_ne q2
    have HRH : Hid (R = t.hear c body) := by show _ = _; rw [HR3.out, if_neg (by rintro ⟨h, -⟩; exact h q0), if_neg (by rintro ⟨h, -⟩; exact q2 h)]
    have HPT : Hid (t.secret.size ≤ 60 ∧ t.asked.size ≤ 400000 ∧ t.tape.asks ≤ 800000) := ⟨HP.out.1, HP.out.2.1, HP.out.2.2.1⟩
    have Q0 := Lib.hid q0
    clear HR3 q0 q2
    go_wp2_with fail
    go_quiet (fail)
    rename_i nq
    obtain ⟨w4, hw4⟩ : ∃ w4, w3.drewN nq = w4 := ⟨_, rfl⟩
    have S4 : Hid (Whs w w4 b t own own (.slice ao ln cap) c ol g) := by show Whs _ _ _ _ _ _ _ _ _ _; rw [← hw4]; exact S3.out.keep ((Upd.refl _ _).drewN _)
    rw [hw4]
    clear hw4 c10 c2 b0 b1 b2 b3 b4
    have c10 := S4.out.m.at_.state
    have b0 := S4.out.x.cell 0
    have b1 := S4.out.x.cell 1
    have b2 := S4.out.x.cell 2
    have b3 := S4.out.x.cell 3
    have b4 := S4.out.x.cell 4
    simp only [List.size_toArray, List.length_cons, List.length_nil, List.getElem?_toArray, List.getElem?_cons_zero, List.getElem?_cons_succ] at b0 b1 b2 b3 b4
    go_wp2_with fail
    refine (HVA.out _).mono ?_
    rintro e w5 ⟨rfl, u5⟩
    have S5 := Lib.hid (S4.out.keep u5)
    clear u5 c10 b0 b1 b2 b3 b4
    have b1 := S5.out.x.cell 1
    simp only [List.size_toArray, List.length_cons, List.length_nil, List.getElem?_toArray, List.getElem?_cons_zero, List.getElem?_cons_succ] at b1
    have c17 := S5.out.m.at_.cellAt 17 (.int .i64 t.quiet) (fun _ _ => rfl)
    have f17 := S5.out.m.at_.frozen 17
    by_cases hv : vls.size = 0
    · have e0 := str_empty_t hv
      have HBB : Hid (body = ⟨#[]⟩) := HBE.out hv
      have HBL : Hid (((⟨#[]⟩ : ByteArray)).size ≤ 281474976710656) := by show ByteArray.size ⟨#[]⟩ ≤ _; exact Nat.zero_le _
      clear hv
      go_wp2_with fail
      have S6 := Lib.hid (S5.out.sets 17 (.int .i64 0) { t with quiet := 0 } (fun _ _ => rfl) rfl rfl)
      have HRB : Hid (R = if ((t.way.take c.ns c.nr (⟨#[]⟩ : ByteArray)).2 = []) then ({ t with quiet := 0, way := (t.way.take c.ns c.nr (⟨#[]⟩ : ByteArray)).1 }, []) else ({ t with quiet := 0, way := (t.way.take c.ns c.nr (⟨#[]⟩ : ByteArray)).1 } : Tn).handle c) := by
        show _ = _
        rw [HRH.out, HBB.out, Tn.hear]
      obtain ⟨bw, ow, c9, hcw, hback⟩ := S6.out.m.at_.wayUp
      have HTK : Hid (CtlAt _ bw t.way ow) := hcw
      have HBK := Lib.hid hback
      obtain ⟨W0, hW0⟩ : ∃ W0, _ = W0 := ⟨(w5).setCell ⟨b, 17, none⟩ (.int .i64 0), rfl⟩
      rw [hW0] at S6 HTK HBK c9
      rw [hW0]
      have C9 := Lib.hid c9
      obtain ⟨qs, hqs⟩ : ∃ x, (t.way.take c.ns c.nr (⟨#[]⟩ : ByteArray)).2 = x := ⟨_, rfl⟩
      obtain ⟨q1, hq1⟩ : ∃ x, (t.way.take c.ns c.nr (⟨#[]⟩ : ByteArray)).1 = x := ⟨_, rfl⟩
      obtain ⟨nn, hnn⟩ : ∃ x, qs.length = x := ⟨_, rfl⟩
      have HNN := Lib.hid hnn
      have HTA : Hid (∀ W, CtlAt W bw t.way ow → Calls Tryz.prog 51 #[.pointer (some ⟨bw, 0, none⟩), .agg #[.int .i64 c.ns, .int .i64 c.nr, .string (⟨#[]⟩ : ByteArray)]] W fun e w' =>
          (∃ ao cap, e = .returned (.slice ao nn cap)) ∧ CtlAt w' bw q1 ow ∧ Upd ow W w') := by
        intro W hW
        refine (take_at hW c.ns c.nr (⟨#[]⟩ : ByteArray) HBL.out).mono ?_
        rintro e w' ⟨⟨v, ol, rfl, ho, -⟩, k2, k3⟩
        rw [hqs, hnn] at ho
        rw [hq1] at k2
        obtain ⟨ao, cap, rfl, -, -⟩ := ho.shape
        exact ⟨⟨ao, cap, rfl⟩, k2, k3⟩
      rw [hqs, hq1] at HRB
      clear hcw hback hW0 hqs hq1 hnn c9
      refine wp_region_chain [some (.pointer (some ⟨b, 0, none⟩)), some (.pointer (some ⟨b, 0, none⟩)), some (.pointer (some ⟨b, 9, none⟩)), some (.pointer (some ⟨bw, 0, none⟩)), some (.pointer (some ⟨g, 2, none⟩)), some (.int .i64 c.ns), some (.pointer (some ⟨g, 3, none⟩)), some (.int .i64 c.nr), some (.string (⟨#[]⟩ : ByteArray)), some (.agg #[.int .i64 c.ns, .int .i64 c.nr, .string (⟨#[]⟩ : ByteArray)]), none, some (.int .i64 nn), some (.bool ((nn : Int) == 0))] [10,11] (tkA W0 bw ow q1 nn) [(0, 0), (0, 0), (0, 0), (0, 0), (0, 0), (0, 0), (0, 0), (0, 0), (0, 0), (0, 0), (0, 0), (1, 1), (2, 2)] (by kernel_rfl) (by kernel_rfl) (by kernel_rfl) (by kernel_rfl) (by kernel_rfl) (by kernel_rfl) (((Upd.refl [] _).drew)) ?_ ?_
      · refine StepsC.cons ?_ (StepsC.cons ?_ (StepsC.cons ?_ (StepsC.cons ?_ (StepsC.cons ?_ (StepsC.cons ?_ (StepsC.cons ?_ (StepsC.cons ?_ (StepsC.cons ?_ (StepsC.cons ?_ (StepsC.cons ?_ (StepsC.cons ?_ (StepsC.cons ?_ StepsC.nil))))))))))))
        · refine chain_is _ (.inl rfl) ⟨_, rfl⟩ (by kernel_rfl) rfl ?_
          intro a W kst l0 h0 A0 hF hD
          have k0 : kst = 0 := Nat.le_antisymm h0 l0
          subst k0
          clear l0 h0
          have e0 : a.tmps[0]?.getD undef = _ := (ev a 0).symm.trans (hF 0 (by kernel_rfl))
          clear hF hD
          go_simp
        · refine chain_is _ (.inl rfl) ⟨_, rfl⟩ (by kernel_rfl) rfl ?_
          intro a W kst l0 h0 A0 hF hD
          have k0 : kst = 0 := Nat.le_antisymm h0 l0
          subst k0
          clear l0 h0
          have e93 : a.tmps[93]?.getD undef = .pointer (some ⟨b, 0, none⟩) := (ev a 93).symm.trans (hD _ (Array.mem_of_getElem? (i := 0) rfl) rfl)
          clear hF hD
          go_simp
        · refine chain_is _ (.inl rfl) ⟨_, rfl⟩ (by kernel_rfl) rfl ?_
          intro a W kst l0 h0 A0 hF hD
          have k0 : kst = 0 := Nat.le_antisymm h0 l0
          subst k0
          clear l0 h0
          have e94 : a.tmps[94]?.getD undef = .pointer (some ⟨b, 0, none⟩) := (ev a 94).symm.trans (hD _ (Array.mem_of_getElem? (i := 0) rfl) rfl)
          clear hF hD
          go_simp
        · refine chain_is _ (.inl rfl) ⟨_, rfl⟩ (by kernel_rfl) rfl ?_
          intro a W kst l0 h0 A0 hF hD
          have k0 : kst = 0 := Nat.le_antisymm h0 l0
          subst k0
          clear l0 h0
          have e95 : a.tmps[95]?.getD undef = .pointer (some ⟨b, 9, none⟩) := (ev a 95).symm.trans (hD _ (Array.mem_of_getElem? (i := 0) rfl) rfl)
          clear hF hD
          have hu : Upd [] W0 W := A0
          have hc := (hu.cell (cell_lt' C9.out) (by simp)).trans C9.out
          go_simp
        · refine chain_is _ (.inl rfl) ⟨_, rfl⟩ (by kernel_rfl) rfl ?_
          intro a W kst l0 h0 A0 hF hD
          have k0 : kst = 0 := Nat.le_antisymm h0 l0
          subst k0
          clear l0 h0
          have e5 : a.tmps[5]?.getD undef = _ := (ev a 5).symm.trans (hF 5 (by kernel_rfl))
          clear hF hD
          go_simp
        · refine chain_is _ (.inl rfl) ⟨_, rfl⟩ (by kernel_rfl) rfl ?_
          intro a W kst l0 h0 A0 hF hD
          have k0 : kst = 0 := Nat.le_antisymm h0 l0
          subst k0
          clear l0 h0
          have e97 : a.tmps[97]?.getD undef = .pointer (some ⟨g, 2, none⟩) := (ev a 97).symm.trans (hD _ (Array.mem_of_getElem? (i := 0) rfl) rfl)
          clear hF hD
          have hu : Upd [] W0 W := A0
          have hc := (S6.out.x.upd hu (by simp)).cell 2
          simp only [List.size_toArray, List.length_cons, List.length_nil, List.getElem?_toArray, List.getElem?_cons_zero, List.getElem?_cons_succ] at hc
          go_simp
        · refine chain_is _ (.inl rfl) ⟨_, rfl⟩ (by kernel_rfl) rfl ?_
          intro a W kst l0 h0 A0 hF hD
          have k0 : kst = 0 := Nat.le_antisymm h0 l0
          subst k0
          clear l0 h0
          have e5 : a.tmps[5]?.getD undef = _ := (ev a 5).symm.trans (hF 5 (by kernel_rfl))
          clear hF hD
          go_simp
        · refine chain_is _ (.inl rfl) ⟨_, rfl⟩ (by kernel_rfl) rfl ?_
          intro a W kst l0 h0 A0 hF hD
          have k0 : kst = 0 := Nat.le_antisymm h0 l0
          subst k0
          clear l0 h0
          have e99 : a.tmps[99]?.getD undef = .pointer (some ⟨g, 3, none⟩) := (ev a 99).symm.trans (hD _ (Array.mem_of_getElem? (i := 0) rfl) rfl)
          clear hF hD
          have hu : Upd [] W0 W := A0
          have hc := (S6.out.x.upd hu (by simp)).cell 3
          simp only [List.size_toArray, List.length_cons, List.length_nil, List.getElem?_toArray, List.getElem?_cons_zero, List.getElem?_cons_succ] at hc
          go_simp
        · refine chain_is _ (.inl rfl) ⟨_, rfl⟩ (by kernel_rfl) rfl ?_
          intro a W kst l0 h0 A0 hF hD
          have k0 : kst = 0 := Nat.le_antisymm h0 l0
          subst k0
          clear l0 h0
          have e8 : a.tmps[8]?.getD undef = _ := (ev a 8).symm.trans (hF 8 (by kernel_rfl))
          clear hF hD
          go_simp
        · refine chain_is _ (.inl rfl) ⟨_, rfl⟩ (by kernel_rfl) rfl ?_
          intro a W kst l0 h0 A0 hF hD
          have k0 : kst = 0 := Nat.le_antisymm h0 l0
          subst k0
          clear l0 h0
          have e98 : a.tmps[98]?.getD undef = .int .i64 c.ns := (ev a 98).symm.trans (hD _ (Array.mem_of_getElem? (i := 0) rfl) rfl)
          have e100 : a.tmps[100]?.getD undef = .int .i64 c.nr := (ev a 100).symm.trans (hD _ (Array.mem_of_getElem? (i := 1) rfl) rfl)
          have e101 : a.tmps[101]?.getD undef = .string (⟨#[]⟩ : ByteArray) := (ev a 101).symm.trans (hD _ (Array.mem_of_getElem? (i := 2) rfl) rfl)
          clear hF hD
          go_simp
        · refine chain_call (.inl rfl) ⟨_, rfl⟩ (by kernel_rfl) ?_
          intro a W kst l0 h0 A0 hF hD
          have k0 : kst = 0 := Nat.le_antisymm h0 l0
          subst k0
          clear l0 h0
          have e96 : a.tmps[96]?.getD undef = .pointer (some ⟨bw, 0, none⟩) := (ev a 96).symm.trans (hD _ (Array.mem_of_getElem? (i := 0) rfl) rfl)
          have e102 : a.tmps[102]?.getD undef = .agg #[.int .i64 c.ns, .int .i64 c.nr, .string (⟨#[]⟩ : ByteArray)] := (ev a 102).symm.trans (hD _ (Array.mem_of_getElem? (i := 1) rfl) rfl)
          clear hF hD
          have hu : Upd [] W0 W := A0
          refine ⟨_, _, by (go_simp; first | done | rfl | exact ⟨rfl, rfl⟩), ?_⟩
          refine (HTA.out _ (HTK.out.keep hu)).mono ?_
          rintro e wq ⟨⟨ao1, cap1, rfl⟩, k2, k3⟩
          exact ⟨_, rfl, trivial, ⟨ao1, cap1, rfl⟩, k2, (hu.mono (by simp)).trans k3⟩
        · refine chain_run (.inl rfl) ⟨_, rfl⟩ (by kernel_rfl) ?_
          intro a W kst l0 h0 A0 hF hD
          have k0 : kst = 1 := Nat.le_antisymm h0 l0
          subst k0
          clear l0 h0
          clear hF hD
          obtain ⟨⟨ao1, cap1, hv⟩, k2, k3⟩ := A0
          have e103 : a.tmps[103]?.getD undef = _ := (ev a 103).symm.trans hv
          exact ⟨_, W, by (go_simp; first | done | rfl), rfl, k2, k3⟩
        · refine chain_is _ (.inl rfl) ⟨_, rfl⟩ (by kernel_rfl) rfl ?_
          intro a W kst l0 h0 A0 hF hD
          have k0 : kst = 2 := Nat.le_antisymm h0 l0
          subst k0
          clear l0 h0
          have e104 : a.tmps[104]?.getD undef = .int .i64 nn := (ev a 104).symm.trans (hD _ (Array.mem_of_getElem? (i := 0) rfl) rfl)
          clear hF hD
          go_simp
      intro vals W hv hA
      have v0 : vals 0 = .pointer (some ⟨b, 0, none⟩) := hv 0 (by decide)
      have v1 : vals 1 = .pointer (some ⟨b, 0, none⟩) := hv 1 (by decide)
      have v2 : vals 2 = .pointer (some ⟨b, 9, none⟩) := hv 2 (by decide)
      have v3 : vals 3 = .pointer (some ⟨bw, 0, none⟩) := hv 3 (by decide)
      have v4 : vals 4 = .pointer (some ⟨g, 2, none⟩) := hv 4 (by decide)
      have v5 : vals 5 = .int .i64 c.ns := hv 5 (by decide)
      have v6 : vals 6 = .pointer (some ⟨g, 3, none⟩) := hv 6 (by decide)
      have v7 : vals 7 = .int .i64 c.nr := hv 7 (by decide)
      have v8 : vals 8 = .string (⟨#[]⟩ : ByteArray) := hv 8 (by decide)
      have v9 : vals 9 = .agg #[.int .i64 c.ns, .int .i64 c.nr, .string (⟨#[]⟩ : ByteArray)] := hv 9 (by decide)
      have v11 : vals 11 = .int .i64 nn := hv 11 (by decide)
      have v12 : vals 12 = .bool ((nn : Int) == 0) := hv 12 (by decide)
      clear hv
      obtain ⟨k2, k3⟩ := hA
      simp only [putAll, Act.put, Nat.zero_add, Nat.reduceAdd, v0, v1, v2, v3, v4, v5, v6, v7, v8, v9, v11, v12, List.setIfInBounds_toArray, List.set_cons_zero, List.set_cons_succ]
      clear v0 v1 v2 v3 v4 v5 v6 v7 v8 v9 v11 v12
      obtain ⟨⟨own7, z1, z2⟩, z3⟩ := HBK.out W q1 ow k2 (Grew.refl _ _) k3
      have S7 := Lib.hid (S6.out.next z1 z2 z3)
      clear k2 k3 z1 z2 z3
      by_cases hn0 : nn = 0
      · have HRZ : Hid (R = ({ t with quiet := 0, way := q1 }, [])) := by show _ = _; rw [HRB.out, if_pos (List.eq_nil_of_length_eq_zero (HNN.out.trans hn0))]
        subst hn0
        go_wp2_with fail
        go_ret
        rw [HRZ.out]
        exact TookEnd.nil (S7.out.ret (.slice none 0 0))
      · have HRZ : Hid (R = ({ t with quiet := 0, way := q1 } : Tn).handle c) := by show _ = _; rw [HRB.out, if_neg (by rintro rfl; exact hn0 (by rw [← HNN.out]; rfl))]
        have hnb : (((nn : Nat) : Int) == 0) = false := beq_false_of_ne (by omega)
        have HPT7 : Hid (({ t with quiet := 0, way := q1 } : Tn).secret.size ≤ 60 ∧ ({ t with quiet := 0, way := q1 } : Tn).asked.size ≤ 400000 ∧ ({ t with quiet := 0, way := q1 } : Tn).tape.asks ≤ 800000) := HPT.out
        generalize ({ t with quiet := 0, way := q1 } : Tn) = T7 at *
        have b0 := S7.out.x.cell 0
        have b1 := S7.out.x.cell 1
        have b2 := S7.out.x.cell 2
        have b3 := S7.out.x.cell 3
        have b4 := S7.out.x.cell 4
        simp only [List.size_toArray, List.length_cons, List.length_nil, List.getElem?_toArray, List.getElem?_cons_zero, List.getElem?_cons_succ] at b0 b1 b2 b3 b4
        have HH : Hid (∀ W own v, Msg W b T7 own v c.l ol → Calls Tryz.prog 52 #[.pointer (some ⟨b, 0, none⟩), c.val v] W (HandleEnd W b own v (T7.handle c))) := fun W own v h => thandle_any h HPT7.out.1 HPT7.out.2.1 HPT7.out.2.2
        simp only [Cm.val] at HH
        go_wp2_with fail
        refine (HH.out _ _ _ S7.out.m).mono ?_
        rintro e w8 ⟨⟨u, own8, rfl, y1, y2, y3⟩, y4⟩
        have HFIN := Lib.hid (S7.out.took HOF.out y1 y2 y3 y4)
        rw [← HRZ.out] at HFIN
        clear y1 y2 y4 HH
        rcases y3 with ⟨-, rfl⟩ | ⟨gm, m, -, rfl, -⟩
        all_goals
          go_wp2_with fail
          go_ret
          exact HFIN.out
    · have e0 := str_empty_f hv
      have HBB : Hid (body = be 2 c.s ++ vls) := (HBF.out hv).1
      have HVL : Hid (vls.size ≤ 400000) := (HBF.out hv).2
      clear hv
      go_wp2_with fail
      refine (HTW.out _).mono ?_
      have htz : (be 2 c.s).size = 2 := be_size 2 c.s
      generalize be 2 c.s = tw at *
      rintro e w6 ⟨rfl, u6⟩
      have S5 := Lib.hid (S5.out.keep u6)
      have HBL : Hid ((tw ++ vls).size ≤ 281474976710656) := by show _ ≤ _; rw [ByteArray.size_append]; have := HVL.out; omega
      have hcat := run_string_add_sum (P := Tryz.prog) w6 tw vls (by have := HVL.out; omega)
      have c17 := S5.out.m.at_.cellAt 17 (.int .i64 t.quiet) (fun _ _ => rfl)
      have f17 := S5.out.m.at_.frozen 17
      clear u6 htz
      go_wp2_with fail
      clear hcat
      have S6 := Lib.hid (S5.out.sets 17 (.int .i64 0) { t with quiet := 0 } (fun _ _ => rfl) rfl rfl)
      have HRB : Hid (R = if ((t.way.take c.ns c.nr (tw ++ vls)).2 = []) then ({ t with quiet := 0, way := (t.way.take c.ns c.nr (tw ++ vls)).1 }, []) else ({ t with quiet := 0, way := (t.way.take c.ns c.nr (tw ++ vls)).1 } : Tn).handle c) := by
        show _ = _
        rw [HRH.out, HBB.out, Tn.hear]
      obtain ⟨bw, ow, c9, hcw, hback⟩ := S6.out.m.at_.wayUp
      have HTK : Hid (CtlAt _ bw t.way ow) := hcw
      have HBK := Lib.hid hback
      obtain ⟨W0, hW0⟩ : ∃ W0, _ = W0 := ⟨(w6).setCell ⟨b, 17, none⟩ (.int .i64 0), rfl⟩
      rw [hW0] at S6 HTK HBK c9
      rw [hW0]
      have C9 := Lib.hid c9
      obtain ⟨qs, hqs⟩ : ∃ x, (t.way.take c.ns c.nr (tw ++ vls)).2 = x := ⟨_, rfl⟩
      obtain ⟨q1, hq1⟩ : ∃ x, (t.way.take c.ns c.nr (tw ++ vls)).1 = x := ⟨_, rfl⟩
      obtain ⟨nn, hnn⟩ : ∃ x, qs.length = x := ⟨_, rfl⟩
      have HNN := Lib.hid hnn
      have HTA : Hid (∀ W, CtlAt W bw t.way ow → Calls Tryz.prog 51 #[.pointer (some ⟨bw, 0, none⟩), .agg #[.int .i64 c.ns, .int .i64 c.nr, .string (tw ++ vls)]] W fun e w' =>
          (∃ ao cap, e = .returned (.slice ao nn cap)) ∧ CtlAt w' bw q1 ow ∧ Upd ow W w') := by
        intro W hW
        refine (take_at hW c.ns c.nr (tw ++ vls) HBL.out).mono ?_
        rintro e w' ⟨⟨v, ol, rfl, ho, -⟩, k2, k3⟩
        rw [hqs, hnn] at ho
        rw [hq1] at k2
        obtain ⟨ao, cap, rfl, -, -⟩ := ho.shape
        exact ⟨⟨ao, cap, rfl⟩, k2, k3⟩
      rw [hqs, hq1] at HRB
      clear hcw hback hW0 hqs hq1 hnn c9
      refine wp_region_chain [some (.pointer (some ⟨b, 0, none⟩)), some (.pointer (some ⟨b, 0, none⟩)), some (.pointer (some ⟨b, 9, none⟩)), some (.pointer (some ⟨bw, 0, none⟩)), some (.pointer (some ⟨g, 2, none⟩)), some (.int .i64 c.ns), some (.pointer (some ⟨g, 3, none⟩)), some (.int .i64 c.nr), some (.string (tw ++ vls)), some (.agg #[.int .i64 c.ns, .int .i64 c.nr, .string (tw ++ vls)]), none, some (.int .i64 nn), some (.bool ((nn : Int) == 0))] [10,11] (tkA W0 bw ow q1 nn) [(0, 0), (0, 0), (0, 0), (0, 0), (0, 0), (0, 0), (0, 0), (0, 0), (0, 0), (0, 0), (0, 0), (1, 1), (2, 2)] (by kernel_rfl) (by kernel_rfl) (by kernel_rfl) (by kernel_rfl) (by kernel_rfl) (by kernel_rfl) (((Upd.refl [] _).drew)) ?_ ?_
      · refine StepsC.cons ?_ (StepsC.cons ?_ (StepsC.cons ?_ (StepsC.cons ?_ (StepsC.cons ?_ (StepsC.cons ?_ (StepsC.cons ?_ (StepsC.cons ?_ (StepsC.cons ?_ (StepsC.cons ?_ (StepsC.cons ?_ (StepsC.cons ?_ (StepsC.cons ?_ StepsC.nil))))))))))))
        · refine chain_is _ (.inl rfl) ⟨_, rfl⟩ (by kernel_rfl) rfl ?_
          intro a W kst l0 h0 A0 hF hD
          have k0 : kst = 0 := Nat.le_antisymm h0 l0
          subst k0
          clear l0 h0
          have e0 : a.tmps[0]?.getD undef = _ := (ev a 0).symm.trans (hF 0 (by kernel_rfl))
          clear hF hD
          go_simp
        · refine chain_is _ (.inl rfl) ⟨_, rfl⟩ (by kernel_rfl) rfl ?_
          intro a W kst l0 h0 A0 hF hD
          have k0 : kst = 0 := Nat.le_antisymm h0 l0
          subst k0
          clear l0 h0
          have e93 : a.tmps[93]?.getD undef = .pointer (some ⟨b, 0, none⟩) := (ev a 93).symm.trans (hD _ (Array.mem_of_getElem? (i := 0) rfl) rfl)
          clear hF hD
          go_simp
        · refine chain_is _ (.inl rfl) ⟨_, rfl⟩ (by kernel_rfl) rfl ?_
          intro a W kst l0 h0 A0 hF hD
          have k0 : kst = 0 := Nat.le_antisymm h0 l0
          subst k0
          clear l0 h0
          have e94 : a.tmps[94]?.getD undef = .pointer (some ⟨b, 0, none⟩) := (ev a 94).symm.trans (hD _ (Array.mem_of_getElem? (i := 0) rfl) rfl)
          clear hF hD
          go_simp
        · refine chain_is _ (.inl rfl) ⟨_, rfl⟩ (by kernel_rfl) rfl ?_
          intro a W kst l0 h0 A0 hF hD
          have k0 : kst = 0 := Nat.le_antisymm h0 l0
          subst k0
          clear l0 h0
          have e95 : a.tmps[95]?.getD undef = .pointer (some ⟨b, 9, none⟩) := (ev a 95).symm.trans (hD _ (Array.mem_of_getElem? (i := 0) rfl) rfl)
          clear hF hD
          have hu : Upd [] W0 W := A0
          have hc := (hu.cell (cell_lt' C9.out) (by simp)).trans C9.out
          go_simp
        · refine chain_is _ (.inl rfl) ⟨_, rfl⟩ (by kernel_rfl) rfl ?_
          intro a W kst l0 h0 A0 hF hD
          have k0 : kst = 0 := Nat.le_antisymm h0 l0
          subst k0
          clear l0 h0
          have e5 : a.tmps[5]?.getD undef = _ := (ev a 5).symm.trans (hF 5 (by kernel_rfl))
          clear hF hD
          go_simp
        · refine chain_is _ (.inl rfl) ⟨_, rfl⟩ (by kernel_rfl) rfl ?_
          intro a W kst l0 h0 A0 hF hD
          have k0 : kst = 0 := Nat.le_antisymm h0 l0
          subst k0
          clear l0 h0
          have e97 : a.tmps[97]?.getD undef = .pointer (some ⟨g, 2, none⟩) := (ev a 97).symm.trans (hD _ (Array.mem_of_getElem? (i := 0) rfl) rfl)
          clear hF hD
          have hu : Upd [] W0 W := A0
          have hc := (S6.out.x.upd hu (by simp)).cell 2
          simp only [List.size_toArray, List.length_cons, List.length_nil, List.getElem?_toArray, List.getElem?_cons_zero, List.getElem?_cons_succ] at hc
          go_simp
        · refine chain_is _ (.inl rfl) ⟨_, rfl⟩ (by kernel_rfl) rfl ?_
          intro a W kst l0 h0 A0 hF hD
          have k0 : kst = 0 := Nat.le_antisymm h0 l0
          subst k0
          clear l0 h0
          have e5 : a.tmps[5]?.getD undef = _ := (ev a 5).symm.trans (hF 5 (by kernel_rfl))
          clear hF hD
          go_simp
        · refine chain_is _ (.inl rfl) ⟨_, rfl⟩ (by kernel_rfl) rfl ?_
          intro a W kst l0 h0 A0 hF hD
          have k0 : kst = 0 := Nat.le_antisymm h0 l0
          subst k0
          clear l0 h0
          have e99 : a.tmps[99]?.getD undef = .pointer (some ⟨g, 3, none⟩) := (ev a 99).symm.trans (hD _ (Array.mem_of_getElem? (i := 0) rfl) rfl)
          clear hF hD
          have hu : Upd [] W0 W := A0
          have hc := (S6.out.x.upd hu (by simp)).cell 3
          simp only [List.size_toArray, List.length_cons, List.length_nil, List.getElem?_toArray, List.getElem?_cons_zero, List.getElem?_cons_succ] at hc
          go_simp
        · refine chain_is _ (.inl rfl) ⟨_, rfl⟩ (by kernel_rfl) rfl ?_
          intro a W kst l0 h0 A0 hF hD
          have k0 : kst = 0 := Nat.le_antisymm h0 l0
          subst k0
          clear l0 h0
          have e8 : a.tmps[8]?.getD undef = _ := (ev a 8).symm.trans (hF 8 (by kernel_rfl))
          clear hF hD
          go_simp
        · refine chain_is _ (.inl rfl) ⟨_, rfl⟩ (by kernel_rfl) rfl ?_
          intro a W kst l0 h0 A0 hF hD
          have k0 : kst = 0 := Nat.le_antisymm h0 l0
          subst k0
          clear l0 h0
          have e98 : a.tmps[98]?.getD undef = .int .i64 c.ns := (ev a 98).symm.trans (hD _ (Array.mem_of_getElem? (i := 0) rfl) rfl)
          have e100 : a.tmps[100]?.getD undef = .int .i64 c.nr := (ev a 100).symm.trans (hD _ (Array.mem_of_getElem? (i := 1) rfl) rfl)
          have e101 : a.tmps[101]?.getD undef = .string (tw ++ vls) := (ev a 101).symm.trans (hD _ (Array.mem_of_getElem? (i := 2) rfl) rfl)
          clear hF hD
          go_simp
        · refine chain_call (.inl rfl) ⟨_, rfl⟩ (by kernel_rfl) ?_
          intro a W kst l0 h0 A0 hF hD
          have k0 : kst = 0 := Nat.le_antisymm h0 l0
          subst k0
          clear l0 h0
          have e96 : a.tmps[96]?.getD undef = .pointer (some ⟨bw, 0, none⟩) := (ev a 96).symm.trans (hD _ (Array.mem_of_getElem? (i := 0) rfl) rfl)
          have e102 : a.tmps[102]?.getD undef = .agg #[.int .i64 c.ns, .int .i64 c.nr, .string (tw ++ vls)] := (ev a 102).symm.trans (hD _ (Array.mem_of_getElem? (i := 1) rfl) rfl)
          clear hF hD
          have hu : Upd [] W0 W := A0
          refine ⟨_, _, by (go_simp; first | done | rfl | exact ⟨rfl, rfl⟩), ?_⟩
          refine (HTA.out _ (HTK.out.keep hu)).mono ?_
          rintro e wq ⟨⟨ao1, cap1, rfl⟩, k2, k3⟩
          exact ⟨_, rfl, trivial, ⟨ao1, cap1, rfl⟩, k2, (hu.mono (by simp)).trans k3⟩
        · refine chain_run (.inl rfl) ⟨_, rfl⟩ (by kernel_rfl) ?_
          intro a W kst l0 h0 A0 hF hD
          have k0 : kst = 1 := Nat.le_antisymm h0 l0
          subst k0
          clear l0 h0
          clear hF hD
          obtain ⟨⟨ao1, cap1, hv⟩, k2, k3⟩ := A0
          have e103 : a.tmps[103]?.getD undef = _ := (ev a 103).symm.trans hv
          exact ⟨_, W, by (go_simp; first | done | rfl), rfl, k2, k3⟩
        · refine chain_is _ (.inl rfl) ⟨_, rfl⟩ (by kernel_rfl) rfl ?_
          intro a W kst l0 h0 A0 hF hD
          have k0 : kst = 2 := Nat.le_antisymm h0 l0
          subst k0
          clear l0 h0
          have e104 : a.tmps[104]?.getD undef = .int .i64 nn := (ev a 104).symm.trans (hD _ (Array.mem_of_getElem? (i := 0) rfl) rfl)
          clear hF hD
          go_simp
      intro vals W hv hA
      have v0 : vals 0 = .pointer (some ⟨b, 0, none⟩) := hv 0 (by decide)
      have v1 : vals 1 = .pointer (some ⟨b, 0, none⟩) := hv 1 (by decide)
      have v2 : vals 2 = .pointer (some ⟨b, 9, none⟩) := hv 2 (by decide)
      have v3 : vals 3 = .pointer (some ⟨bw, 0, none⟩) := hv 3 (by decide)
      have v4 : vals 4 = .pointer (some ⟨g, 2, none⟩) := hv 4 (by decide)
      have v5 : vals 5 = .int .i64 c.ns := hv 5 (by decide)
      have v6 : vals 6 = .pointer (some ⟨g, 3, none⟩) := hv 6 (by decide)
      have v7 : vals 7 = .int .i64 c.nr := hv 7 (by decide)
      have v8 : vals 8 = .string (tw ++ vls) := hv 8 (by decide)
      have v9 : vals 9 = .agg #[.int .i64 c.ns, .int .i64 c.nr, .string (tw ++ vls)] := hv 9 (by decide)
      have v11 : vals 11 = .int .i64 nn := hv 11 (by decide)
      have v12 : vals 12 = .bool ((nn : Int) == 0) := hv 12 (by decide)
      clear hv
      obtain ⟨k2, k3⟩ := hA
      simp only [putAll, Act.put, Nat.zero_add, Nat.reduceAdd, v0, v1, v2, v3, v4, v5, v6, v7, v8, v9, v11, v12, List.setIfInBounds_toArray, List.set_cons_zero, List.set_cons_succ]
      clear v0 v1 v2 v3 v4 v5 v6 v7 v8 v9 v11 v12
      obtain ⟨⟨own7, z1, z2⟩, z3⟩ := HBK.out W q1 ow k2 (Grew.refl _ _) k3
      have S7 := Lib.hid (S6.out.next z1 z2 z3)
      clear k2 k3 z1 z2 z3
      by_cases hn0 : nn = 0
      · have HRZ : Hid (R = ({ t with quiet := 0, way := q1 }, [])) := by show _ = _; rw [HRB.out, if_pos (List.eq_nil_of_length_eq_zero (HNN.out.trans hn0))]
        subst hn0
        go_wp2_with fail
        go_ret
        rw [HRZ.out]
        exact TookEnd.nil (S7.out.ret (.slice none 0 0))
      · have HRZ : Hid (R = ({ t with quiet := 0, way := q1 } : Tn).handle c) := by show _ = _; rw [HRB.out, if_neg (by rintro rfl; exact hn0 (by rw [← HNN.out]; rfl))]
        have hnb : (((nn : Nat) : Int) == 0) = false := beq_false_of_ne (by omega)
        have HPT7 : Hid (({ t with quiet := 0, way := q1 } : Tn).secret.size ≤ 60 ∧ ({ t with quiet := 0, way := q1 } : Tn).asked.size ≤ 400000 ∧ ({ t with quiet := 0, way := q1 } : Tn).tape.asks ≤ 800000) := HPT.out
        generalize ({ t with quiet := 0, way := q1 } : Tn) = T7 at *
        have b0 := S7.out.x.cell 0
        have b1 := S7.out.x.cell 1
        have b2 := S7.out.x.cell 2
        have b3 := S7.out.x.cell 3
        have b4 := S7.out.x.cell 4
        simp only [List.size_toArray, List.length_cons, List.length_nil, List.getElem?_toArray, List.getElem?_cons_zero, List.getElem?_cons_succ] at b0 b1 b2 b3 b4
        have HH : Hid (∀ W own v, Msg W b T7 own v c.l ol → Calls Tryz.prog 52 #[.pointer (some ⟨b, 0, none⟩), c.val v] W (HandleEnd W b own v (T7.handle c))) := fun W own v h => thandle_any h HPT7.out.1 HPT7.out.2.1 HPT7.out.2.2
        simp only [Cm.val] at HH
        go_wp2_with fail
        refine (HH.out _ _ _ S7.out.m).mono ?_
        rintro e w8 ⟨⟨u, own8, rfl, y1, y2, y3⟩, y4⟩
        have HFIN := Lib.hid (S7.out.took HOF.out y1 y2 y3 y4)
        rw [← HRZ.out] at HFIN
        clear y1 y2 y4 HH
        rcases y3 with ⟨-, rfl⟩ | ⟨gm, m, -, rfl, -⟩
        all_goals
          go_wp2_with fail
          go_ret
          exact HFIN.out
  have z2 : (kd == 1) = true := by rw [q2]; rfl
  by_cases q4 : t.state = 1
  case neg =>
    have z5 : (t.state == 1) = false := beq_false_of_ne q4
    have HRH : Hid (R = t.hear c body) := by show _ = _; rw [HR3.out, if_neg (by rintro ⟨h, -⟩; exact h q0), if_neg (by rintro ⟨-, h⟩; exact q4 h)]
    have HPT : Hid (t.secret.size ≤ 60 ∧ t.asked.size ≤ 400000 ∧ t.tape.asks ≤ 800000) := ⟨HP.out.1, HP.out.2.1, HP.out.2.2.1⟩
    clear HR3 q0 q2 q4
    go_wp2_with fail
    go_quiet (fail)
    rename_i nq
    obtain ⟨w4, hw4⟩ : ∃ w4, w3.drewN nq = w4 := ⟨_, rfl⟩
    have S4 : Hid (Whs w w4 b t own own (.slice ao ln cap) c ol g) := by show Whs _ _ _ _ _ _ _ _ _ _; rw [← hw4]; exact S3.out.keep ((Upd.refl _ _).drewN _)
    rw [hw4]
    clear hw4 c10 c2 b0 b1 b2 b3 b4
    have c10 := S4.out.m.at_.state
    have b0 := S4.out.x.cell 0
    have b1 := S4.out.x.cell 1
    have b2 := S4.out.x.cell 2
    have b3 := S4.out.x.cell 3
    have b4 := S4.out.x.cell 4
    simp only [List.size_toArray, List.length_cons, List.length_nil, List.getElem?_toArray, List.getElem?_cons_zero, List.getElem?_cons_succ] at b0 b1 b2 b3 b4
    go_wp2_with fail
    refine (HVA.out _).mono ?_
    rintro e w5 ⟨rfl, u5⟩
    have S5 := Lib.hid (S4.out.keep u5)
    clear u5 c10 b0 b1 b2 b3 b4
    have b1 := S5.out.x.cell 1
    simp only [List.size_toArray, List.length_cons, List.length_nil, List.getElem?_toArray, List.getElem?_cons_zero, List.getElem?_cons_succ] at b1
    have c17 := S5.out.m.at_.cellAt 17 (.int .i64 t.quiet) (fun _ _ => rfl)
    have f17 := S5.out.m.at_.frozen 17
    by_cases hv : vls.size = 0
    · have e0 := str_empty_t hv
      have HBB : Hid (body = ⟨#[]⟩) := HBE.out hv
      have HBL : Hid (((⟨#[]⟩ : ByteArray)).size ≤ 281474976710656) := by show ByteArray.size ⟨#[]⟩ ≤ _; exact Nat.zero_le _
      clear hv
      go_wp2_with fail
      have S6 := Lib.hid (S5.out.sets 17 (.int .i64 0) { t with quiet := 0 } (fun _ _ => rfl) rfl rfl)
      have HRB : Hid (R = if ((t.way.take c.ns c.nr (⟨#[]⟩ : ByteArray)).2 = []) then ({ t with quiet := 0, way := (t.way.take c.ns c.nr (⟨#[]⟩ : ByteArray)).1 }, []) else ({ t with quiet := 0, way := (t.way.take c.ns c.nr (⟨#[]⟩ : ByteArray)).1 } : Tn).handle c) := by
        show _ = _
        rw [HRH.out, HBB.out, Tn.hear]
      obtain ⟨bw, ow, c9, hcw, hback⟩ := S6.out.m.at_.wayUp
      have HTK : Hid (CtlAt _ bw t.way ow) := hcw
      have HBK := Lib.hid hback
      obtain ⟨W0, hW0⟩ : ∃ W0, _ = W0 := ⟨(w5).setCell ⟨b, 17, none⟩ (.int .i64 0), rfl⟩
      rw [hW0] at S6 HTK HBK c9
      rw [hW0]
      have C9 := Lib.hid c9
      obtain ⟨qs, hqs⟩ : ∃ x, (t.way.take c.ns c.nr (⟨#[]⟩ : ByteArray)).2 = x := ⟨_, rfl⟩
      obtain ⟨q1, hq1⟩ : ∃ x, (t.way.take c.ns c.nr (⟨#[]⟩ : ByteArray)).1 = x := ⟨_, rfl⟩
      obtain ⟨nn, hnn⟩ : ∃ x, qs.length = x := ⟨_, rfl⟩
      have HNN := Lib.hid hnn
      have HTA : Hid (∀ W, CtlAt W bw t.way ow → Calls Tryz.prog 51 #[.pointer (some ⟨bw, 0, none⟩), .agg #[.int .i64 c.ns, .int .i64 c.nr, .string (⟨#[]⟩ : ByteArray)]] W fun e w' =>
          (∃ ao cap, e = .returned (.slice ao nn cap)) ∧ CtlAt w' bw q1 ow ∧ Upd ow W w') := by
        intro W hW
        refine (take_at hW c.ns c.nr (⟨#[]⟩ : ByteArray) HBL.out).mono ?_
        rintro e w' ⟨⟨v, ol, rfl, ho, -⟩, k2, k3⟩
        rw [hqs, hnn] at ho
        rw [hq1] at k2
        obtain ⟨ao, cap, rfl, -, -⟩ := ho.shape
        exact ⟨⟨ao, cap, rfl⟩, k2, k3⟩
      rw [hqs, hq1] at HRB
      clear hcw hback hW0 hqs hq1 hnn c9
      refine wp_region_chain [some (.pointer (some ⟨b, 0, none⟩)), some (.pointer (some ⟨b, 0, none⟩)), some (.pointer (some ⟨b, 9, none⟩)), some (.pointer (some ⟨bw, 0, none⟩)), some (.pointer (some ⟨g, 2, none⟩)), some (.int .i64 c.ns), some (.pointer (some ⟨g, 3, none⟩)), some (.int .i64 c.nr), some (.string (⟨#[]⟩ : ByteArray)), some (.agg #[.int .i64 c.ns, .int .i64 c.nr, .string (⟨#[]⟩ : ByteArray)]), none, some (.int .i64 nn), some (.bool ((nn : Int) == 0))] [10,11] (tkA W0 bw ow q1 nn) [(0, 0), (0, 0), (0, 0), (0, 0), (0, 0), (0, 0), (0, 0), (0, 0), (0, 0), (0, 0), (0, 0), (1, 1), (2, 2)] (by kernel_rfl) (by kernel_rfl) (by kernel_rfl) (by kernel_rfl) (by kernel_rfl) (by kernel_rfl) (((Upd.refl [] _).drew)) ?_ ?_
      · refine StepsC.cons ?_ (StepsC.cons ?_ (StepsC.cons ?_ (StepsC.cons ?_ (StepsC.cons ?_ (StepsC.cons ?_ (StepsC.cons ?_ (StepsC.cons ?_ (StepsC.cons ?_ (StepsC.cons ?_ (StepsC.cons ?_ (StepsC.cons ?_ (StepsC.cons ?_ StepsC.nil))))))))))))
        · refine chain_is _ (.inl rfl) ⟨_, rfl⟩ (by kernel_rfl) rfl ?_
          intro a W kst l0 h0 A0 hF hD
          have k0 : kst = 0 := Nat.le_antisymm h0 l0
          subst k0
          clear l0 h0
          have e0 : a.tmps[0]?.getD undef = _ := (ev a 0).symm.trans (hF 0 (by kernel_rfl))
          clear hF hD
          go_simp
        · refine chain_is _ (.inl rfl) ⟨_, rfl⟩ (by kernel_rfl) rfl ?_
          intro a W kst l0 h0 A0 hF hD
          have k0 : kst = 0 := Nat.le_antisymm h0 l0
          subst k0
          clear l0 h0
          have e93 : a.tmps[93]?.getD undef = .pointer (some ⟨b, 0, none⟩) := (ev a 93).symm.trans (hD _ (Array.mem_of_getElem? (i := 0) rfl) rfl)
          clear hF hD
          go_simp
        · refine chain_is _ (.inl rfl) ⟨_, rfl⟩ (by kernel_rfl) rfl ?_
          intro a W kst l0 h0 A0 hF hD
          have k0 : kst = 0 := Nat.le_antisymm h0 l0
          subst k0
          clear l0 h0
          have e94 : a.tmps[94]?.getD undef = .pointer (some ⟨b, 0, none⟩) := (ev a 94).symm.trans (hD _ (Array.mem_of_getElem? (i := 0) rfl) rfl)
          clear hF hD
          go_simp
        · refine chain_is _ (.inl rfl) ⟨_, rfl⟩ (by kernel_rfl) rfl ?_
          intro a W kst l0 h0 A0 hF hD
          have k0 : kst = 0 := Nat.le_antisymm h0 l0
          subst k0
          clear l0 h0
          have e95 : a.tmps[95]?.getD undef = .pointer (some ⟨b, 9, none⟩) := (ev a 95).symm.trans (hD _ (Array.mem_of_getElem? (i := 0) rfl) rfl)
          clear hF hD
          have hu : Upd [] W0 W := A0
          have hc := (hu.cell (cell_lt' C9.out) (by simp)).trans C9.out
          go_simp
        · refine chain_is _ (.inl rfl) ⟨_, rfl⟩ (by kernel_rfl) rfl ?_
          intro a W kst l0 h0 A0 hF hD
          have k0 : kst = 0 := Nat.le_antisymm h0 l0
          subst k0
          clear l0 h0
          have e5 : a.tmps[5]?.getD undef = _ := (ev a 5).symm.trans (hF 5 (by kernel_rfl))
          clear hF hD
          go_simp
        · refine chain_is _ (.inl rfl) ⟨_, rfl⟩ (by kernel_rfl) rfl ?_
          intro a W kst l0 h0 A0 hF hD
          have k0 : kst = 0 := Nat.le_antisymm h0 l0
          subst k0
          clear l0 h0
          have e97 : a.tmps[97]?.getD undef = .pointer (some ⟨g, 2, none⟩) := (ev a 97).symm.trans (hD _ (Array.mem_of_getElem? (i := 0) rfl) rfl)
          clear hF hD
          have hu : Upd [] W0 W := A0
          have hc := (S6.out.x.upd hu (by simp)).cell 2
          simp only [List.size_toArray, List.length_cons, List.length_nil, List.getElem?_toArray, List.getElem?_cons_zero, List.getElem?_cons_succ] at hc
          go_simp
        · refine chain_is _ (.inl rfl) ⟨_, rfl⟩ (by kernel_rfl) rfl ?_
          intro a W kst l0 h0 A0 hF hD
          have k0 : kst = 0 := Nat.le_antisymm h0 l0
          subst k0
          clear l0 h0
          have e5 : a.tmps[5]?.getD undef = _ := (ev a 5).symm.trans (hF 5 (by kernel_rfl))
          clear hF hD
          go_simp
        · refine chain_is _ (.inl rfl) ⟨_, rfl⟩ (by kernel_rfl) rfl ?_
          intro a W kst l0 h0 A0 hF hD
          have k0 : kst = 0 := Nat.le_antisymm h0 l0
          subst k0
          clear l0 h0
          have e99 : a.tmps[99]?.getD undef = .pointer (some ⟨g, 3, none⟩) := (ev a 99).symm.trans (hD _ (Array.mem_of_getElem? (i := 0) rfl) rfl)
          clear hF hD
          have hu : Upd [] W0 W := A0
          have hc := (S6.out.x.upd hu (by simp)).cell 3
          simp only [List.size_toArray, List.length_cons, List.length_nil, List.getElem?_toArray, List.getElem?_cons_zero, List.getElem?_cons_succ] at hc
          go_simp
        · refine chain_is _ (.inl rfl) ⟨_, rfl⟩ (by kernel_rfl) rfl ?_
          intro a W kst l0 h0 A0 hF hD
          have k0 : kst = 0 := Nat.le_antisymm h0 l0
          subst k0
          clear l0 h0
          have e8 : a.tmps[8]?.getD undef = _ := (ev a 8).symm.trans (hF 8 (by kernel_rfl))
          clear hF hD
          go_simp
        · refine chain_is _ (.inl rfl) ⟨_, rfl⟩ (by kernel_rfl) rfl ?_
          intro a W kst l0 h0 A0 hF hD
          have k0 : kst = 0 := Nat.le_antisymm h0 l0
          subst k0
          clear l0 h0
          have e98 : a.tmps[98]?.getD undef = .int .i64 c.ns := (ev a 98).symm.trans (hD _ (Array.mem_of_getElem? (i := 0) rfl) rfl)
          have e100 : a.tmps[100]?.getD undef = .int .i64 c.nr := (ev a 100).symm.trans (hD _ (Array.mem_of_getElem? (i := 1) rfl) rfl)
          have e101 : a.tmps[101]?.getD undef = .string (⟨#[]⟩ : ByteArray) := (ev a 101).symm.trans (hD _ (Array.mem_of_getElem? (i := 2) rfl) rfl)
          clear hF hD
          go_simp
        · refine chain_call (.inl rfl) ⟨_, rfl⟩ (by kernel_rfl) ?_
          intro a W kst l0 h0 A0 hF hD
          have k0 : kst = 0 := Nat.le_antisymm h0 l0
          subst k0
          clear l0 h0
          have e96 : a.tmps[96]?.getD undef = .pointer (some ⟨bw, 0, none⟩) := (ev a 96).symm.trans (hD _ (Array.mem_of_getElem? (i := 0) rfl) rfl)
          have e102 : a.tmps[102]?.getD undef = .agg #[.int .i64 c.ns, .int .i64 c.nr, .string (⟨#[]⟩ : ByteArray)] := (ev a 102).symm.trans (hD _ (Array.mem_of_getElem? (i := 1) rfl) rfl)
          clear hF hD
          have hu : Upd [] W0 W := A0
          refine ⟨_, _, by (go_simp; first | done | rfl | exact ⟨rfl, rfl⟩), ?_⟩
          refine (HTA.out _ (HTK.out.keep hu)).mono ?_
          rintro e wq ⟨⟨ao1, cap1, rfl⟩, k2, k3⟩
          exact ⟨_, rfl, trivial, ⟨ao1, cap1, rfl⟩, k2, (hu.mono (by simp)).trans k3⟩
        · refine chain_run (.inl rfl) ⟨_, rfl⟩ (by kernel_rfl) ?_
          intro a W kst l0 h0 A0 hF hD
          have k0 : kst = 1 := Nat.le_antisymm h0 l0
          subst k0
          clear l0 h0
          clear hF hD
          obtain ⟨⟨ao1, cap1, hv⟩, k2, k3⟩ := A0
          have e103 : a.tmps[103]?.getD undef = _ := (ev a 103).symm.trans hv
          exact ⟨_, W, by (go_simp; first | done | rfl), rfl, k2, k3⟩
        · refine chain_is _ (.inl rfl) ⟨_, rfl⟩ (by kernel_rfl) rfl ?_
          intro a W kst l0 h0 A0 hF hD
          have k0 : kst = 2 := Nat.le_antisymm h0 l0
          subst k0
          clear l0 h0
          have e104 : a.tmps[104]?.getD undef = .int .i64 nn := (ev a 104).symm.trans (hD _ (Array.mem_of_getElem? (i := 0) rfl) rfl)
          clear hF hD
          go_simp
      intro vals W hv hA
      have v0 : vals 0 = .pointer (some ⟨b, 0, none⟩) := hv 0 (by decide)
      have v1 : vals 1 = .pointer (some ⟨b, 0, none⟩) := hv 1 (by decide)
      have v2 : vals 2 = .pointer (some ⟨b, 9, none⟩) := hv 2 (by decide)
      have v3 : vals 3 = .pointer (some ⟨bw, 0, none⟩) := hv 3 (by decide)
      have v4 : vals 4 = .pointer (some ⟨g, 2, none⟩) := hv 4 (by decide)
      have v5 : vals 5 = .int .i64 c.ns := hv 5 (by decide)
      have v6 : vals 6 = .pointer (some ⟨g, 3, none⟩) := hv 6 (by decide)
      have v7 : vals 7 = .int .i64 c.nr := hv 7 (by decide)
      have v8 : vals 8 = .string (⟨#[]⟩ : ByteArray) := hv 8 (by decide)
      have v9 : vals 9 = .agg #[.int .i64 c.ns, .int .i64 c.nr, .string (⟨#[]⟩ : ByteArray)] := hv 9 (by decide)
      have v11 : vals 11 = .int .i64 nn := hv 11 (by decide)
      have v12 : vals 12 = .bool ((nn : Int) == 0) := hv 12 (by decide)
      clear hv
      obtain ⟨k2, k3⟩ := hA
      simp only [putAll, Act.put, Nat.zero_add, Nat.reduceAdd, v0, v1, v2, v3, v4, v5, v6, v7, v8, v9, v11, v12, List.setIfInBounds_toArray, List.set_cons_zero, List.set_cons_succ]
      clear v0 v1 v2 v3 v4 v5 v6 v7 v8 v9 v11 v12
      obtain ⟨⟨own7, z1, z2⟩, z3⟩ := HBK.out W q1 ow k2 (Grew.refl _ _) k3
      have S7 := Lib.hid (S6.out.next z1 z2 z3)
      clear k2 k3 z1 z2 z3
      by_cases hn0 : nn = 0
      · have HRZ : Hid (R = ({ t with quiet := 0, way := q1 }, [])) := by show _ = _; rw [HRB.out, if_pos (List.eq_nil_of_length_eq_zero (HNN.out.trans hn0))]
        subst hn0
        go_wp2_with fail
        go_ret
        rw [HRZ.out]
        exact TookEnd.nil (S7.out.ret (.slice none 0 0))
      · have HRZ : Hid (R = ({ t with quiet := 0, way := q1 } : Tn).handle c) := by show _ = _; rw [HRB.out, if_neg (by rintro rfl; exact hn0 (by rw [← HNN.out]; rfl))]
        have hnb : (((nn : Nat) : Int) == 0) = false := beq_false_of_ne (by omega)
        have HPT7 : Hid (({ t with quiet := 0, way := q1 } : Tn).secret.size ≤ 60 ∧ ({ t with quiet := 0, way := q1 } : Tn).asked.size ≤ 400000 ∧ ({ t with quiet := 0, way := q1 } : Tn).tape.asks ≤ 800000) := HPT.out
        generalize ({ t with quiet := 0, way := q1 } : Tn) = T7 at *
        have b0 := S7.out.x.cell 0
        have b1 := S7.out.x.cell 1
        have b2 := S7.out.x.cell 2
        have b3 := S7.out.x.cell 3
        have b4 := S7.out.x.cell 4
        simp only [List.size_toArray, List.length_cons, List.length_nil, List.getElem?_toArray, List.getElem?_cons_zero, List.getElem?_cons_succ] at b0 b1 b2 b3 b4
        have HH : Hid (∀ W own v, Msg W b T7 own v c.l ol → Calls Tryz.prog 52 #[.pointer (some ⟨b, 0, none⟩), c.val v] W (HandleEnd W b own v (T7.handle c))) := fun W own v h => thandle_any h HPT7.out.1 HPT7.out.2.1 HPT7.out.2.2
        simp only [Cm.val] at HH
        go_wp2_with fail
        refine (HH.out _ _ _ S7.out.m).mono ?_
        rintro e w8 ⟨⟨u, own8, rfl, y1, y2, y3⟩, y4⟩
        have HFIN := Lib.hid (S7.out.took HOF.out y1 y2 y3 y4)
        rw [← HRZ.out] at HFIN
        clear y1 y2 y4 HH
        rcases y3 with ⟨-, rfl⟩ | ⟨gm, m, -, rfl, -⟩
        all_goals
          go_wp2_with fail
          go_ret
          exact HFIN.out
    · have e0 := str_empty_f hv
      have HBB : Hid (body = be 2 c.s ++ vls) := (HBF.out hv).1
      have HVL : Hid (vls.size ≤ 400000) := (HBF.out hv).2
      clear hv
      go_wp2_with fail
      refine (HTW.out _).mono ?_
      have htz : (be 2 c.s).size = 2 := be_size 2 c.s
      generalize be 2 c.s = tw at *
      rintro e w6 ⟨rfl, u6⟩
      have S5 := Lib.hid (S5.out.keep u6)
      have HBL : Hid ((tw ++ vls).size ≤ 281474976710656) := by show _ ≤ _; rw [ByteArray.size_append]; have := HVL.out; omega
      have hcat := run_string_add_sum (P := Tryz.prog) w6 tw vls (by have := HVL.out; omega)
      have c17 := S5.out.m.at_.cellAt 17 (.int .i64 t.quiet) (fun _ _ => rfl)
      have f17 := S5.out.m.at_.frozen 17
      clear u6 htz
      go_wp2_with fail
      clear hcat
      have S6 := Lib.hid (S5.out.sets 17 (.int .i64 0) { t with quiet := 0 } (fun _ _ => rfl) rfl rfl)
      have HRB : Hid (R = if ((t.way.take c.ns c.nr (tw ++ vls)).2 = []) then ({ t with quiet := 0, way := (t.way.take c.ns c.nr (tw ++ vls)).1 }, []) else ({ t with quiet := 0, way := (t.way.take c.ns c.nr (tw ++ vls)).1 } : Tn).handle c) := by
        show _ = _
        rw [HRH.out, HBB.out, Tn.hear]
      obtain ⟨bw, ow, c9, hcw, hback⟩ := S6.out.m.at_.wayUp
      have HTK : Hid (CtlAt _ bw t.way ow) := hcw
      have HBK := Lib.hid hback
      obtain ⟨W0, hW0⟩ : ∃ W0, _ = W0 := ⟨(w6).setCell ⟨b, 17, none⟩ (.int .i64 0), rfl⟩
      rw [hW0] at S6 HTK HBK c9
      rw [hW0]
      have C9 := Lib.hid c9
      obtain ⟨qs, hqs⟩ : ∃ x, (t.way.take c.ns c.nr (tw ++ vls)).2 = x := ⟨_, rfl⟩
      obtain ⟨q1, hq1⟩ : ∃ x, (t.way.take c.ns c.nr (tw ++ vls)).1 = x := ⟨_, rfl⟩
      obtain ⟨nn, hnn⟩ : ∃ x, qs.length = x := ⟨_, rfl⟩
      have HNN := Lib.hid hnn
      have HTA : Hid (∀ W, CtlAt W bw t.way ow → Calls Tryz.prog 51 #[.pointer (some ⟨bw, 0, none⟩), .agg #[.int .i64 c.ns, .int .i64 c.nr, .string (tw ++ vls)]] W fun e w' =>
          (∃ ao cap, e = .returned (.slice ao nn cap)) ∧ CtlAt w' bw q1 ow ∧ Upd ow W w') := by
        intro W hW
        refine (take_at hW c.ns c.nr (tw ++ vls) HBL.out).mono ?_
        rintro e w' ⟨⟨v, ol, rfl, ho, -⟩, k2, k3⟩
        rw [hqs, hnn] at ho
        rw [hq1] at k2
        obtain ⟨ao, cap, rfl, -, -⟩ := ho.shape
        exact ⟨⟨ao, cap, rfl⟩, k2, k3⟩
      rw [hqs, hq1] at HRB
      clear hcw hback hW0 hqs hq1 hnn c9
      refine wp_region_chain [some (.pointer (some ⟨b, 0, none⟩)), some (.pointer (some ⟨b, 0, none⟩)), some (.pointer (some ⟨b, 9, none⟩)), some (.pointer (some ⟨bw, 0, none⟩)), some (.pointer (some ⟨g, 2, none⟩)), some (.int .i64 c.ns), some (.pointer (some ⟨g, 3, none⟩)), some (.int .i64 c.nr), some (.string (tw ++ vls)), some (.agg #[.int .i64 c.ns, .int .i64 c.nr, .string (tw ++ vls)]), none, some (.int .i64 nn), some (.bool ((nn : Int) == 0))] [10,11] (tkA W0 bw ow q1 nn) [(0, 0), (0, 0), (0, 0), (0, 0), (0, 0), (0, 0), (0, 0), (0, 0), (0, 0), (0, 0), (0, 0), (1, 1), (2, 2)] (by kernel_rfl) (by kernel_rfl) (by kernel_rfl) (by kernel_rfl) (by kernel_rfl) (by kernel_rfl) (((Upd.refl [] _).drew)) ?_ ?_
      · refine StepsC.cons ?_ (StepsC.cons ?_ (StepsC.cons ?_ (StepsC.cons ?_ (StepsC.cons ?_ (StepsC.cons ?_ (StepsC.cons ?_ (StepsC.cons ?_ (StepsC.cons ?_ (StepsC.cons ?_ (StepsC.cons ?_ (StepsC.cons ?_ (StepsC.cons ?_ StepsC.nil))))))))))))
        · refine chain_is _ (.inl rfl) ⟨_, rfl⟩ (by kernel_rfl) rfl ?_
          intro a W kst l0 h0 A0 hF hD
          have k0 : kst = 0 := Nat.le_antisymm h0 l0
          subst k0
          clear l0 h0
          have e0 : a.tmps[0]?.getD undef = _ := (ev a 0).symm.trans (hF 0 (by kernel_rfl))
          clear hF hD
          go_simp
        · refine chain_is _ (.inl rfl) ⟨_, rfl⟩ (by kernel_rfl) rfl ?_
          intro a W kst l0 h0 A0 hF hD
          have k0 : kst = 0 := Nat.le_antisymm h0 l0
          subst k0
          clear l0 h0
          have e93 : a.tmps[93]?.getD undef = .pointer (some ⟨b, 0, none⟩) := (ev a 93).symm.trans (hD _ (Array.mem_of_getElem? (i := 0) rfl) rfl)
          clear hF hD
          go_simp
        · refine chain_is _ (.inl rfl) ⟨_, rfl⟩ (by kernel_rfl) rfl ?_
          intro a W kst l0 h0 A0 hF hD
          have k0 : kst = 0 := Nat.le_antisymm h0 l0
          subst k0
          clear l0 h0
          have e94 : a.tmps[94]?.getD undef = .pointer (some ⟨b, 0, none⟩) := (ev a 94).symm.trans (hD _ (Array.mem_of_getElem? (i := 0) rfl) rfl)
          clear hF hD
          go_simp
        · refine chain_is _ (.inl rfl) ⟨_, rfl⟩ (by kernel_rfl) rfl ?_
          intro a W kst l0 h0 A0 hF hD
          have k0 : kst = 0 := Nat.le_antisymm h0 l0
          subst k0
          clear l0 h0
          have e95 : a.tmps[95]?.getD undef = .pointer (some ⟨b, 9, none⟩) := (ev a 95).symm.trans (hD _ (Array.mem_of_getElem? (i := 0) rfl) rfl)
          clear hF hD
          have hu : Upd [] W0 W := A0
          have hc := (hu.cell (cell_lt' C9.out) (by simp)).trans C9.out
          go_simp
        · refine chain_is _ (.inl rfl) ⟨_, rfl⟩ (by kernel_rfl) rfl ?_
          intro a W kst l0 h0 A0 hF hD
          have k0 : kst = 0 := Nat.le_antisymm h0 l0
          subst k0
          clear l0 h0
          have e5 : a.tmps[5]?.getD undef = _ := (ev a 5).symm.trans (hF 5 (by kernel_rfl))
          clear hF hD
          go_simp
        · refine chain_is _ (.inl rfl) ⟨_, rfl⟩ (by kernel_rfl) rfl ?_
          intro a W kst l0 h0 A0 hF hD
          have k0 : kst = 0 := Nat.le_antisymm h0 l0
          subst k0
          clear l0 h0
          have e97 : a.tmps[97]?.getD undef = .pointer (some ⟨g, 2, none⟩) := (ev a 97).symm.trans (hD _ (Array.mem_of_getElem? (i := 0) rfl) rfl)
          clear hF hD
          have hu : Upd [] W0 W := A0
          have hc := (S6.out.x.upd hu (by simp)).cell 2
          simp only [List.size_toArray, List.length_cons, List.length_nil, List.getElem?_toArray, List.getElem?_cons_zero, List.getElem?_cons_succ] at hc
          go_simp
        · refine chain_is _ (.inl rfl) ⟨_, rfl⟩ (by kernel_rfl) rfl ?_
          intro a W kst l0 h0 A0 hF hD
          have k0 : kst = 0 := Nat.le_antisymm h0 l0
          subst k0
          clear l0 h0
          have e5 : a.tmps[5]?.getD undef = _ := (ev a 5).symm.trans (hF 5 (by kernel_rfl))
          clear hF hD
          go_simp
        · refine chain_is _ (.inl rfl) ⟨_, rfl⟩ (by kernel_rfl) rfl ?_
          intro a W kst l0 h0 A0 hF hD
          have k0 : kst = 0 := Nat.le_antisymm h0 l0
          subst k0
          clear l0 h0
          have e99 : a.tmps[99]?.getD undef = .pointer (some ⟨g, 3, none⟩) := (ev a 99).symm.trans (hD _ (Array.mem_of_getElem? (i := 0) rfl) rfl)
          clear hF hD
          have hu : Upd [] W0 W := A0
          have hc := (S6.out.x.upd hu (by simp)).cell 3
          simp only [List.size_toArray, List.length_cons, List.length_nil, List.getElem?_toArray, List.getElem?_cons_zero, List.getElem?_cons_succ] at hc
          go_simp
        · refine chain_is _ (.inl rfl) ⟨_, rfl⟩ (by kernel_rfl) rfl ?_
          intro a W kst l0 h0 A0 hF hD
          have k0 : kst = 0 := Nat.le_antisymm h0 l0
          subst k0
          clear l0 h0
          have e8 : a.tmps[8]?.getD undef = _ := (ev a 8).symm.trans (hF 8 (by kernel_rfl))
          clear hF hD
          go_simp
        · refine chain_is _ (.inl rfl) ⟨_, rfl⟩ (by kernel_rfl) rfl ?_
          intro a W kst l0 h0 A0 hF hD
          have k0 : kst = 0 := Nat.le_antisymm h0 l0
          subst k0
          clear l0 h0
          have e98 : a.tmps[98]?.getD undef = .int .i64 c.ns := (ev a 98).symm.trans (hD _ (Array.mem_of_getElem? (i := 0) rfl) rfl)
          have e100 : a.tmps[100]?.getD undef = .int .i64 c.nr := (ev a 100).symm.trans (hD _ (Array.mem_of_getElem? (i := 1) rfl) rfl)
          have e101 : a.tmps[101]?.getD undef = .string (tw ++ vls) := (ev a 101).symm.trans (hD _ (Array.mem_of_getElem? (i := 2) rfl) rfl)
          clear hF hD
          go_simp
        · refine chain_call (.inl rfl) ⟨_, rfl⟩ (by kernel_rfl) ?_
          intro a W kst l0 h0 A0 hF hD
          have k0 : kst = 0 := Nat.le_antisymm h0 l0
          subst k0
          clear l0 h0
          have e96 : a.tmps[96]?.getD undef = .pointer (some ⟨bw, 0, none⟩) := (ev a 96).symm.trans (hD _ (Array.mem_of_getElem? (i := 0) rfl) rfl)
          have e102 : a.tmps[102]?.getD undef = .agg #[.int .i64 c.ns, .int .i64 c.nr, .string (tw ++ vls)] := (ev a 102).symm.trans (hD _ (Array.mem_of_getElem? (i := 1) rfl) rfl)
          clear hF hD
          have hu : Upd [] W0 W := A0
          refine ⟨_, _, by (go_simp; first | done | rfl | exact ⟨rfl, rfl⟩), ?_⟩
          refine (HTA.out _ (HTK.out.keep hu)).mono ?_
          rintro e wq ⟨⟨ao1, cap1, rfl⟩, k2, k3⟩
          exact ⟨_, rfl, trivial, ⟨ao1, cap1, rfl⟩, k2, (hu.mono (by simp)).trans k3⟩
        · refine chain_run (.inl rfl) ⟨_, rfl⟩ (by kernel_rfl) ?_
          intro a W kst l0 h0 A0 hF hD
          have k0 : kst = 1 := Nat.le_antisymm h0 l0
          subst k0
          clear l0 h0
          clear hF hD
          obtain ⟨⟨ao1, cap1, hv⟩, k2, k3⟩ := A0
          have e103 : a.tmps[103]?.getD undef = _ := (ev a 103).symm.trans hv
          exact ⟨_, W, by (go_simp; first | done | rfl), rfl, k2, k3⟩
        · refine chain_is _ (.inl rfl) ⟨_, rfl⟩ (by kernel_rfl) rfl ?_
          intro a W kst l0 h0 A0 hF hD
          have k0 : kst = 2 := Nat.le_antisymm h0 l0
          subst k0
          clear l0 h0
          have e104 : a.tmps[104]?.getD undef = .int .i64 nn := (ev a 104).symm.trans (hD _ (Array.mem_of_getElem? (i := 0) rfl) rfl)
          clear hF hD
          go_simp
      intro vals W hv hA
      have v0 : vals 0 = .pointer (some ⟨b, 0, none⟩) := hv 0 (by decide)
      have v1 : vals 1 = .pointer (some ⟨b, 0, none⟩) := hv 1 (by decide)
      have v2 : vals 2 = .pointer (some ⟨b, 9, none⟩) := hv 2 (by decide)
      have v3 : vals 3 = .pointer (some ⟨bw, 0, none⟩) := hv 3 (by decide)
      have v4 : vals 4 = .pointer (some ⟨g, 2, none⟩) := hv 4 (by decide)
      have v5 : vals 5 = .int .i64 c.ns := hv 5 (by decide)
      have v6 : vals 6 = .pointer (some ⟨g, 3, none⟩) := hv 6 (by decide)
      have v7 : vals 7 = .int .i64 c.nr := hv 7 (by decide)
      have v8 : vals 8 = .string (tw ++ vls) := hv 8 (by decide)
      have v9 : vals 9 = .agg #[.int .i64 c.ns, .int .i64 c.nr, .string (tw ++ vls)] := hv 9 (by decide)
      have v11 : vals 11 = .int .i64 nn := hv 11 (by decide)
      have v12 : vals 12 = .bool ((nn : Int) == 0) := hv 12 (by decide)
      clear hv
      obtain ⟨k2, k3⟩ := hA
      simp only [putAll, Act.put, Nat.zero_add, Nat.reduceAdd, v0, v1, v2, v3, v4, v5, v6, v7, v8, v9, v11, v12, List.setIfInBounds_toArray, List.set_cons_zero, List.set_cons_succ]
      clear v0 v1 v2 v3 v4 v5 v6 v7 v8 v9 v11 v12
      obtain ⟨⟨own7, z1, z2⟩, z3⟩ := HBK.out W q1 ow k2 (Grew.refl _ _) k3
      have S7 := Lib.hid (S6.out.next z1 z2 z3)
      clear k2 k3 z1 z2 z3
      by_cases hn0 : nn = 0
      · have HRZ : Hid (R = ({ t with quiet := 0, way := q1 }, [])) := by show _ = _; rw [HRB.out, if_pos (List.eq_nil_of_length_eq_zero (HNN.out.trans hn0))]
        subst hn0
        go_wp2_with fail
        go_ret
        rw [HRZ.out]
        exact TookEnd.nil (S7.out.ret (.slice none 0 0))
      · have HRZ : Hid (R = ({ t with quiet := 0, way := q1 } : Tn).handle c) := by show _ = _; rw [HRB.out, if_neg (by rintro rfl; exact hn0 (by rw [← HNN.out]; rfl))]
        have hnb : (((nn : Nat) : Int) == 0) = false := beq_false_of_ne (by omega)
        have HPT7 : Hid (({ t with quiet := 0, way := q1 } : Tn).secret.size ≤ 60 ∧ ({ t with quiet := 0, way := q1 } : Tn).asked.size ≤ 400000 ∧ ({ t with quiet := 0, way := q1 } : Tn).tape.asks ≤ 800000) := HPT.out
        generalize ({ t with quiet := 0, way := q1 } : Tn) = T7 at *
        have b0 := S7.out.x.cell 0
        have b1 := S7.out.x.cell 1
        have b2 := S7.out.x.cell 2
        have b3 := S7.out.x.cell 3
        have b4 := S7.out.x.cell 4
        simp only [List.size_toArray, List.length_cons, List.length_nil, List.getElem?_toArray, List.getElem?_cons_zero, List.getElem?_cons_succ] at b0 b1 b2 b3 b4
        have HH : Hid (∀ W own v, Msg W b T7 own v c.l ol → Calls Tryz.prog 52 #[.pointer (some ⟨b, 0, none⟩), c.val v] W (HandleEnd W b own v (T7.handle c))) := fun W own v h => thandle_any h HPT7.out.1 HPT7.out.2.1 HPT7.out.2.2
        simp only [Cm.val] at HH
        go_wp2_with fail
        refine (HH.out _ _ _ S7.out.m).mono ?_
        rintro e w8 ⟨⟨u, own8, rfl, y1, y2, y3⟩, y4⟩
        have HFIN := Lib.hid (S7.out.took HOF.out y1 y2 y3 y4)
        rw [← HRZ.out] at HFIN
        clear y1 y2 y4 HH
        rcases y3 with ⟨-, rfl⟩ | ⟨gm, m, -, rfl, -⟩
        all_goals
          go_wp2_with fail
          go_ret
          exact HFIN.out
  have z5 : (t.state == 1) = true := by rw [q4]; rfl
  have HRY : Hid (R = if yb = false then (YT, []) else YT.hear c body) := by show _ = _; rw [HR3.out, if_neg (by rintro ⟨h, -⟩; exact h q0), if_pos ⟨q2, q4⟩]
  clear HR3 q0 q2 q4
  go_wp2_with fail
  go_quiet (fail)
  rename_i nq
  obtain ⟨w4, hw4⟩ : ∃ w4, w3.drewN nq = w4 := ⟨_, rfl⟩
  have S4 : Hid (Whs w w4 b t own own (.slice ao ln cap) c ol g) := by show Whs _ _ _ _ _ _ _ _ _ _; rw [← hw4]; exact S3.out.keep ((Upd.refl _ _).drewN _)
  rw [hw4]
  clear hw4 c10 c2 b0 b1 b2 b3 b4
  have c10 := S4.out.m.at_.state
  have b0 := S4.out.x.cell 0
  have b1 := S4.out.x.cell 1
  have b2 := S4.out.x.cell 2
  have b3 := S4.out.x.cell 3
  have b4 := S4.out.x.cell 4
  simp only [List.size_toArray, List.length_cons, List.length_nil, List.getElem?_toArray, List.getElem?_cons_zero, List.getElem?_cons_succ] at b0 b1 b2 b3 b4
  go_wp2_with fail
  refine (HYI.out _ _ _ S4.out.m).mono ?_
  rintro e w9 ⟨rfl, ⟨own9, k1, k2⟩, k3⟩
  have S9 := Lib.hid (S4.out.next k1 k2 k3)
  clear k1 k2 k3
  cases yb
  · have HRZ : Hid (R = (YT, [])) := by show _ = _; rw [HRY.out, if_pos rfl]
    go_wp2_with fail
    go_ret
    rw [HRZ.out]
    exact TookEnd.nil (S9.out.ret (.slice none 0 0))
  · have HRH : Hid (R = YT.hear c body) := by show _ = _; rw [HRY.out, if_neg (by simp)]
    have HPT : Hid (YT.secret.size ≤ 60 ∧ YT.asked.size ≤ 400000 ∧ YT.tape.asks ≤ 800000) := by
      show _ ∧ _ ∧ _
      rw [show YT.secret = t.secret from HYK.out.secret, show YT.asked = t.asked from HYK.out.asked, show YT.tape = t.tape from HYK.out.tape]
      exact ⟨HP.out.1, HP.out.2.1, HP.out.2.2.1⟩
    clear HRY
    go_wp2_with fail
    refine (HVA.out _).mono ?_
    rintro e w5 ⟨rfl, u5⟩
    have S5 := Lib.hid (S9.out.keep u5)
    clear u5 c10 b0 b1 b2 b3 b4
    have b1 := S5.out.x.cell 1
    simp only [List.size_toArray, List.length_cons, List.length_nil, List.getElem?_toArray, List.getElem?_cons_zero, List.getElem?_cons_succ] at b1
    have c17 := S5.out.m.at_.cellAt 17 (.int .i64 YT.quiet) (fun _ _ => rfl)
    have f17 := S5.out.m.at_.frozen 17
    by_cases hv : vls.size = 0
    · have e0 := str_empty_t hv
      have HBB : Hid (body = ⟨#[]⟩) := HBE.out hv
      have HBL : Hid (((⟨#[]⟩ : ByteArray)).size ≤ 281474976710656) := by show ByteArray.size ⟨#[]⟩ ≤ _; exact Nat.zero_le _
      clear hv
      go_wp2_with fail
      have S6 := Lib.hid (S5.out.sets 17 (.int .i64 0) { YT with quiet := 0 } (fun _ _ => rfl) rfl rfl)
      have HRB : Hid (R = if ((YT.way.take c.ns c.nr (⟨#[]⟩ : ByteArray)).2 = []) then ({ YT with quiet := 0, way := (YT.way.take c.ns c.nr (⟨#[]⟩ : ByteArray)).1 }, []) else ({ YT with quiet := 0, way := (YT.way.take c.ns c.nr (⟨#[]⟩ : ByteArray)).1 } : Tn).handle c) := by
        show _ = _
        rw [HRH.out, HBB.out, Tn.hear]
      obtain ⟨bw, ow, c9, hcw, hback⟩ := S6.out.m.at_.wayUp
      have HTK : Hid (CtlAt _ bw YT.way ow) := hcw
      have HBK := Lib.hid hback
      obtain ⟨W0, hW0⟩ : ∃ W0, _ = W0 := ⟨(w5).setCell ⟨b, 17, none⟩ (.int .i64 0), rfl⟩
      rw [hW0] at S6 HTK HBK c9
      rw [hW0]
      have C9 := Lib.hid c9
      obtain ⟨qs, hqs⟩ : ∃ x, (YT.way.take c.ns c.nr (⟨#[]⟩ : ByteArray)).2 = x := ⟨_, rfl⟩
      obtain ⟨q1, hq1⟩ : ∃ x, (YT.way.take c.ns c.nr (⟨#[]⟩ : ByteArray)).1 = x := ⟨_, rfl⟩
      obtain ⟨nn, hnn⟩ : ∃ x, qs.length = x := ⟨_, rfl⟩
      have HNN := Lib.hid hnn
      have HTA : Hid (∀ W, CtlAt W bw YT.way ow → Calls Tryz.prog 51 #[.pointer (some ⟨bw, 0, none⟩), .agg #[.int .i64 c.ns, .int .i64 c.nr, .string (⟨#[]⟩ : ByteArray)]] W fun e w' =>
          (∃ ao cap, e = .returned (.slice ao nn cap)) ∧ CtlAt w' bw q1 ow ∧ Upd ow W w') := by
        intro W hW
        refine (take_at hW c.ns c.nr (⟨#[]⟩ : ByteArray) HBL.out).mono ?_
        rintro e w' ⟨⟨v, ol, rfl, ho, -⟩, k2, k3⟩
        rw [hqs, hnn] at ho
        rw [hq1] at k2
        obtain ⟨ao, cap, rfl, -, -⟩ := ho.shape
        exact ⟨⟨ao, cap, rfl⟩, k2, k3⟩
      rw [hqs, hq1] at HRB
      clear hcw hback hW0 hqs hq1 hnn c9
      refine wp_region_chain [some (.pointer (some ⟨b, 0, none⟩)), some (.pointer (some ⟨b, 0, none⟩)), some (.pointer (some ⟨b, 9, none⟩)), some (.pointer (some ⟨bw, 0, none⟩)), some (.pointer (some ⟨g, 2, none⟩)), some (.int .i64 c.ns), some (.pointer (some ⟨g, 3, none⟩)), some (.int .i64 c.nr), some (.string (⟨#[]⟩ : ByteArray)), some (.agg #[.int .i64 c.ns, .int .i64 c.nr, .string (⟨#[]⟩ : ByteArray)]), none, some (.int .i64 nn), some (.bool ((nn : Int) == 0))] [10,11] (tkA W0 bw ow q1 nn) [(0, 0), (0, 0), (0, 0), (0, 0), (0, 0), (0, 0), (0, 0), (0, 0), (0, 0), (0, 0), (0, 0), (1, 1), (2, 2)] (by kernel_rfl) (by kernel_rfl) (by kernel_rfl) (by kernel_rfl) (by kernel_rfl) (by kernel_rfl) (((Upd.refl [] _).drew)) ?_ ?_
      · refine StepsC.cons ?_ (StepsC.cons ?_ (StepsC.cons ?_ (StepsC.cons ?_ (StepsC.cons ?_ (StepsC.cons ?_ (StepsC.cons ?_ (StepsC.cons ?_ (StepsC.cons ?_ (StepsC.cons ?_ (StepsC.cons ?_ (StepsC.cons ?_ (StepsC.cons ?_ StepsC.nil))))))))))))
        · refine chain_is _ (.inl rfl) ⟨_, rfl⟩ (by kernel_rfl) rfl ?_
          intro a W kst l0 h0 A0 hF hD
          have k0 : kst = 0 := Nat.le_antisymm h0 l0
          subst k0
          clear l0 h0
          have e0 : a.tmps[0]?.getD undef = _ := (ev a 0).symm.trans (hF 0 (by kernel_rfl))
          clear hF hD
          go_simp
        · refine chain_is _ (.inl rfl) ⟨_, rfl⟩ (by kernel_rfl) rfl ?_
          intro a W kst l0 h0 A0 hF hD
          have k0 : kst = 0 := Nat.le_antisymm h0 l0
          subst k0
          clear l0 h0
          have e93 : a.tmps[93]?.getD undef = .pointer (some ⟨b, 0, none⟩) := (ev a 93).symm.trans (hD _ (Array.mem_of_getElem? (i := 0) rfl) rfl)
          clear hF hD
          go_simp
        · refine chain_is _ (.inl rfl) ⟨_, rfl⟩ (by kernel_rfl) rfl ?_
          intro a W kst l0 h0 A0 hF hD
          have k0 : kst = 0 := Nat.le_antisymm h0 l0
          subst k0
          clear l0 h0
          have e94 : a.tmps[94]?.getD undef = .pointer (some ⟨b, 0, none⟩) := (ev a 94).symm.trans (hD _ (Array.mem_of_getElem? (i := 0) rfl) rfl)
          clear hF hD
          go_simp
        · refine chain_is _ (.inl rfl) ⟨_, rfl⟩ (by kernel_rfl) rfl ?_
          intro a W kst l0 h0 A0 hF hD
          have k0 : kst = 0 := Nat.le_antisymm h0 l0
          subst k0
          clear l0 h0
          have e95 : a.tmps[95]?.getD undef = .pointer (some ⟨b, 9, none⟩) := (ev a 95).symm.trans (hD _ (Array.mem_of_getElem? (i := 0) rfl) rfl)
          clear hF hD
          have hu : Upd [] W0 W := A0
          have hc := (hu.cell (cell_lt' C9.out) (by simp)).trans C9.out
          go_simp
        · refine chain_is _ (.inl rfl) ⟨_, rfl⟩ (by kernel_rfl) rfl ?_
          intro a W kst l0 h0 A0 hF hD
          have k0 : kst = 0 := Nat.le_antisymm h0 l0
          subst k0
          clear l0 h0
          have e5 : a.tmps[5]?.getD undef = _ := (ev a 5).symm.trans (hF 5 (by kernel_rfl))
          clear hF hD
          go_simp
        · refine chain_is _ (.inl rfl) ⟨_, rfl⟩ (by kernel_rfl) rfl ?_
          intro a W kst l0 h0 A0 hF hD
          have k0 : kst = 0 := Nat.le_antisymm h0 l0
          subst k0
          clear l0 h0
          have e97 : a.tmps[97]?.getD undef = .pointer (some ⟨g, 2, none⟩) := (ev a 97).symm.trans (hD _ (Array.mem_of_getElem? (i := 0) rfl) rfl)
          clear hF hD
          have hu : Upd [] W0 W := A0
          have hc := (S6.out.x.upd hu (by simp)).cell 2
          simp only [List.size_toArray, List.length_cons, List.length_nil, List.getElem?_toArray, List.getElem?_cons_zero, List.getElem?_cons_succ] at hc
          go_simp
        · refine chain_is _ (.inl rfl) ⟨_, rfl⟩ (by kernel_rfl) rfl ?_
          intro a W kst l0 h0 A0 hF hD
          have k0 : kst = 0 := Nat.le_antisymm h0 l0
          subst k0
          clear l0 h0
          have e5 : a.tmps[5]?.getD undef = _ := (ev a 5).symm.trans (hF 5 (by kernel_rfl))
          clear hF hD
          go_simp
        · refine chain_is _ (.inl rfl) ⟨_, rfl⟩ (by kernel_rfl) rfl ?_
          intro a W kst l0 h0 A0 hF hD
          have k0 : kst = 0 := Nat.le_antisymm h0 l0
          subst k0
          clear l0 h0
          have e99 : a.tmps[99]?.getD undef = .pointer (some ⟨g, 3, none⟩) := (ev a 99).symm.trans (hD _ (Array.mem_of_getElem? (i := 0) rfl) rfl)
          clear hF hD
          have hu : Upd [] W0 W := A0
          have hc := (S6.out.x.upd hu (by simp)).cell 3
          simp only [List.size_toArray, List.length_cons, List.length_nil, List.getElem?_toArray, List.getElem?_cons_zero, List.getElem?_cons_succ] at hc
          go_simp
        · refine chain_is _ (.inl rfl) ⟨_, rfl⟩ (by kernel_rfl) rfl ?_
          intro a W kst l0 h0 A0 hF hD
          have k0 : kst = 0 := Nat.le_antisymm h0 l0
          subst k0
          clear l0 h0
          have e8 : a.tmps[8]?.getD undef = _ := (ev a 8).symm.trans (hF 8 (by kernel_rfl))
          clear hF hD
          go_simp
        · refine chain_is _ (.inl rfl) ⟨_, rfl⟩ (by kernel_rfl) rfl ?_
          intro a W kst l0 h0 A0 hF hD
          have k0 : kst = 0 := Nat.le_antisymm h0 l0
          subst k0
          clear l0 h0
          have e98 : a.tmps[98]?.getD undef = .int .i64 c.ns := (ev a 98).symm.trans (hD _ (Array.mem_of_getElem? (i := 0) rfl) rfl)
          have e100 : a.tmps[100]?.getD undef = .int .i64 c.nr := (ev a 100).symm.trans (hD _ (Array.mem_of_getElem? (i := 1) rfl) rfl)
          have e101 : a.tmps[101]?.getD undef = .string (⟨#[]⟩ : ByteArray) := (ev a 101).symm.trans (hD _ (Array.mem_of_getElem? (i := 2) rfl) rfl)
          clear hF hD
          go_simp
        · refine chain_call (.inl rfl) ⟨_, rfl⟩ (by kernel_rfl) ?_
          intro a W kst l0 h0 A0 hF hD
          have k0 : kst = 0 := Nat.le_antisymm h0 l0
          subst k0
          clear l0 h0
          have e96 : a.tmps[96]?.getD undef = .pointer (some ⟨bw, 0, none⟩) := (ev a 96).symm.trans (hD _ (Array.mem_of_getElem? (i := 0) rfl) rfl)
          have e102 : a.tmps[102]?.getD undef = .agg #[.int .i64 c.ns, .int .i64 c.nr, .string (⟨#[]⟩ : ByteArray)] := (ev a 102).symm.trans (hD _ (Array.mem_of_getElem? (i := 1) rfl) rfl)
          clear hF hD
          have hu : Upd [] W0 W := A0
          refine ⟨_, _, by (go_simp; first | done | rfl | exact ⟨rfl, rfl⟩), ?_⟩
          refine (HTA.out _ (HTK.out.keep hu)).mono ?_
          rintro e wq ⟨⟨ao1, cap1, rfl⟩, k2, k3⟩
          exact ⟨_, rfl, trivial, ⟨ao1, cap1, rfl⟩, k2, (hu.mono (by simp)).trans k3⟩
        · refine chain_run (.inl rfl) ⟨_, rfl⟩ (by kernel_rfl) ?_
          intro a W kst l0 h0 A0 hF hD
          have k0 : kst = 1 := Nat.le_antisymm h0 l0
          subst k0
          clear l0 h0
          clear hF hD
          obtain ⟨⟨ao1, cap1, hv⟩, k2, k3⟩ := A0
          have e103 : a.tmps[103]?.getD undef = _ := (ev a 103).symm.trans hv
          exact ⟨_, W, by (go_simp; first | done | rfl), rfl, k2, k3⟩
        · refine chain_is _ (.inl rfl) ⟨_, rfl⟩ (by kernel_rfl) rfl ?_
          intro a W kst l0 h0 A0 hF hD
          have k0 : kst = 2 := Nat.le_antisymm h0 l0
          subst k0
          clear l0 h0
          have e104 : a.tmps[104]?.getD undef = .int .i64 nn := (ev a 104).symm.trans (hD _ (Array.mem_of_getElem? (i := 0) rfl) rfl)
          clear hF hD
          go_simp
      intro vals W hv hA
      have v0 : vals 0 = .pointer (some ⟨b, 0, none⟩) := hv 0 (by decide)
      have v1 : vals 1 = .pointer (some ⟨b, 0, none⟩) := hv 1 (by decide)
      have v2 : vals 2 = .pointer (some ⟨b, 9, none⟩) := hv 2 (by decide)
      have v3 : vals 3 = .pointer (some ⟨bw, 0, none⟩) := hv 3 (by decide)
      have v4 : vals 4 = .pointer (some ⟨g, 2, none⟩) := hv 4 (by decide)
      have v5 : vals 5 = .int .i64 c.ns := hv 5 (by decide)
      have v6 : vals 6 = .pointer (some ⟨g, 3, none⟩) := hv 6 (by decide)
      have v7 : vals 7 = .int .i64 c.nr := hv 7 (by decide)
      have v8 : vals 8 = .string (⟨#[]⟩ : ByteArray) := hv 8 (by decide)
      have v9 : vals 9 = .agg #[.int .i64 c.ns, .int .i64 c.nr, .string (⟨#[]⟩ : ByteArray)] := hv 9 (by decide)
      have v11 : vals 11 = .int .i64 nn := hv 11 (by decide)
      have v12 : vals 12 = .bool ((nn : Int) == 0) := hv 12 (by decide)
      clear hv
      obtain ⟨k2, k3⟩ := hA
      simp only [putAll, Act.put, Nat.zero_add, Nat.reduceAdd, v0, v1, v2, v3, v4, v5, v6, v7, v8, v9, v11, v12, List.setIfInBounds_toArray, List.set_cons_zero, List.set_cons_succ]
      clear v0 v1 v2 v3 v4 v5 v6 v7 v8 v9 v11 v12
      obtain ⟨⟨own7, z1, z2⟩, z3⟩ := HBK.out W q1 ow k2 (Grew.refl _ _) k3
      have S7 := Lib.hid (S6.out.next z1 z2 z3)
      clear k2 k3 z1 z2 z3
      by_cases hn0 : nn = 0
      · have HRZ : Hid (R = ({ YT with quiet := 0, way := q1 }, [])) := by show _ = _; rw [HRB.out, if_pos (List.eq_nil_of_length_eq_zero (HNN.out.trans hn0))]
        subst hn0
        go_wp2_with fail
        go_ret
        rw [HRZ.out]
        exact TookEnd.nil (S7.out.ret (.slice none 0 0))
      · have HRZ : Hid (R = ({ YT with quiet := 0, way := q1 } : Tn).handle c) := by show _ = _; rw [HRB.out, if_neg (by rintro rfl; exact hn0 (by rw [← HNN.out]; rfl))]
        have hnb : (((nn : Nat) : Int) == 0) = false := beq_false_of_ne (by omega)
        have HPT7 : Hid (({ YT with quiet := 0, way := q1 } : Tn).secret.size ≤ 60 ∧ ({ YT with quiet := 0, way := q1 } : Tn).asked.size ≤ 400000 ∧ ({ YT with quiet := 0, way := q1 } : Tn).tape.asks ≤ 800000) := HPT.out
        generalize ({ YT with quiet := 0, way := q1 } : Tn) = T7 at *
        have b0 := S7.out.x.cell 0
        have b1 := S7.out.x.cell 1
        have b2 := S7.out.x.cell 2
        have b3 := S7.out.x.cell 3
        have b4 := S7.out.x.cell 4
        simp only [List.size_toArray, List.length_cons, List.length_nil, List.getElem?_toArray, List.getElem?_cons_zero, List.getElem?_cons_succ] at b0 b1 b2 b3 b4
        have HH : Hid (∀ W own v, Msg W b T7 own v c.l ol → Calls Tryz.prog 52 #[.pointer (some ⟨b, 0, none⟩), c.val v] W (HandleEnd W b own v (T7.handle c))) := fun W own v h => thandle_any h HPT7.out.1 HPT7.out.2.1 HPT7.out.2.2
        simp only [Cm.val] at HH
        go_wp2_with fail
        refine (HH.out _ _ _ S7.out.m).mono ?_
        rintro e w8 ⟨⟨u, own8, rfl, y1, y2, y3⟩, y4⟩
        have HFIN := Lib.hid (S7.out.took HOF.out y1 y2 y3 y4)
        rw [← HRZ.out] at HFIN
        clear y1 y2 y4 HH
        rcases y3 with ⟨-, rfl⟩ | ⟨gm, m, -, rfl, -⟩
        all_goals
          go_wp2_with fail
          go_ret
          exact HFIN.out
    · have e0 := str_empty_f hv
      have HBB : Hid (body = be 2 c.s ++ vls) := (HBF.out hv).1
      have HVL : Hid (vls.size ≤ 400000) := (HBF.out hv).2
      clear hv
      go_wp2_with fail
      refine (HTW.out _).mono ?_
      have htz : (be 2 c.s).size = 2 := be_size 2 c.s
      generalize be 2 c.s = tw at *
      rintro e w6 ⟨rfl, u6⟩
      have S5 := Lib.hid (S5.out.keep u6)
      have HBL : Hid ((tw ++ vls).size ≤ 281474976710656) := by show _ ≤ _; rw [ByteArray.size_append]; have := HVL.out; omega
      have hcat := run_string_add_sum (P := Tryz.prog) w6 tw vls (by have := HVL.out; omega)
      have c17 := S5.out.m.at_.cellAt 17 (.int .i64 YT.quiet) (fun _ _ => rfl)
      have f17 := S5.out.m.at_.frozen 17
      clear u6 htz
      go_wp2_with fail
      clear hcat
      have S6 := Lib.hid (S5.out.sets 17 (.int .i64 0) { YT with quiet := 0 } (fun _ _ => rfl) rfl rfl)
      have HRB : Hid (R = if ((YT.way.take c.ns c.nr (tw ++ vls)).2 = []) then ({ YT with quiet := 0, way := (YT.way.take c.ns c.nr (tw ++ vls)).1 }, []) else ({ YT with quiet := 0, way := (YT.way.take c.ns c.nr (tw ++ vls)).1 } : Tn).handle c) := by
        show _ = _
        rw [HRH.out, HBB.out, Tn.hear]
      obtain ⟨bw, ow, c9, hcw, hback⟩ := S6.out.m.at_.wayUp
      have HTK : Hid (CtlAt _ bw YT.way ow) := hcw
      have HBK := Lib.hid hback
      obtain ⟨W0, hW0⟩ : ∃ W0, _ = W0 := ⟨(w6).setCell ⟨b, 17, none⟩ (.int .i64 0), rfl⟩
      rw [hW0] at S6 HTK HBK c9
      rw [hW0]
      have C9 := Lib.hid c9
      obtain ⟨qs, hqs⟩ : ∃ x, (YT.way.take c.ns c.nr (tw ++ vls)).2 = x := ⟨_, rfl⟩
      obtain ⟨q1, hq1⟩ : ∃ x, (YT.way.take c.ns c.nr (tw ++ vls)).1 = x := ⟨_, rfl⟩
      obtain ⟨nn, hnn⟩ : ∃ x, qs.length = x := ⟨_, rfl⟩
      have HNN := Lib.hid hnn
      have HTA : Hid (∀ W, CtlAt W bw YT.way ow → Calls Tryz.prog 51 #[.pointer (some ⟨bw, 0, none⟩), .agg #[.int .i64 c.ns, .int .i64 c.nr, .string (tw ++ vls)]] W fun e w' =>
          (∃ ao cap, e = .returned (.slice ao nn cap)) ∧ CtlAt w' bw q1 ow ∧ Upd ow W w') := by
        intro W hW
        refine (take_at hW c.ns c.nr (tw ++ vls) HBL.out).mono ?_
        rintro e w' ⟨⟨v, ol, rfl, ho, -⟩, k2, k3⟩
        rw [hqs, hnn] at ho
        rw [hq1] at k2
        obtain ⟨ao, cap, rfl, -, -⟩ := ho.shape
        exact ⟨⟨ao, cap, rfl⟩, k2, k3⟩
      rw [hqs, hq1] at HRB
      clear hcw hback hW0 hqs hq1 hnn c9
      refine wp_region_chain [some (.pointer (some ⟨b, 0, none⟩)), some (.pointer (some ⟨b, 0, none⟩)), some (.pointer (some ⟨b, 9, none⟩)), some (.pointer (some ⟨bw, 0, none⟩)), some (.pointer (some ⟨g, 2, none⟩)), some (.int .i64 c.ns), some (.pointer (some ⟨g, 3, none⟩)), some (.int .i64 c.nr), some (.string (tw ++ vls)), some (.agg #[.int .i64 c.ns, .int .i64 c.nr, .string (tw ++ vls)]), none, some (.int .i64 nn), some (.bool ((nn : Int) == 0))] [10,11] (tkA W0 bw ow q1 nn) [(0, 0), (0, 0), (0, 0), (0, 0), (0, 0), (0, 0), (0, 0), (0, 0), (0, 0), (0, 0), (0, 0), (1, 1), (2, 2)] (by kernel_rfl) (by kernel_rfl) (by kernel_rfl) (by kernel_rfl) (by kernel_rfl) (by kernel_rfl) (((Upd.refl [] _).drew)) ?_ ?_
      · refine StepsC.cons ?_ (StepsC.cons ?_ (StepsC.cons ?_ (StepsC.cons ?_ (StepsC.cons ?_ (StepsC.cons ?_ (StepsC.cons ?_ (StepsC.cons ?_ (StepsC.cons ?_ (StepsC.cons ?_ (StepsC.cons ?_ (StepsC.cons ?_ (StepsC.cons ?_ StepsC.nil))))))))))))
        · refine chain_is _ (.inl rfl) ⟨_, rfl⟩ (by kernel_rfl) rfl ?_
          intro a W kst l0 h0 A0 hF hD
          have k0 : kst = 0 := Nat.le_antisymm h0 l0
          subst k0
          clear l0 h0
          have e0 : a.tmps[0]?.getD undef = _ := (ev a 0).symm.trans (hF 0 (by kernel_rfl))
          clear hF hD
          go_simp
        · refine chain_is _ (.inl rfl) ⟨_, rfl⟩ (by kernel_rfl) rfl ?_
          intro a W kst l0 h0 A0 hF hD
          have k0 : kst = 0 := Nat.le_antisymm h0 l0
          subst k0
          clear l0 h0
          have e93 : a.tmps[93]?.getD undef = .pointer (some ⟨b, 0, none⟩) := (ev a 93).symm.trans (hD _ (Array.mem_of_getElem? (i := 0) rfl) rfl)
          clear hF hD
          go_simp
        · refine chain_is _ (.inl rfl) ⟨_, rfl⟩ (by kernel_rfl) rfl ?_
          intro a W kst l0 h0 A0 hF hD
          have k0 : kst = 0 := Nat.le_antisymm h0 l0
          subst k0
          clear l0 h0
          have e94 : a.tmps[94]?.getD undef = .pointer (some ⟨b, 0, none⟩) := (ev a 94).symm.trans (hD _ (Array.mem_of_getElem? (i := 0) rfl) rfl)
          clear hF hD
          go_simp
        · refine chain_is _ (.inl rfl) ⟨_, rfl⟩ (by kernel_rfl) rfl ?_
          intro a W kst l0 h0 A0 hF hD
          have k0 : kst = 0 := Nat.le_antisymm h0 l0
          subst k0
          clear l0 h0
          have e95 : a.tmps[95]?.getD undef = .pointer (some ⟨b, 9, none⟩) := (ev a 95).symm.trans (hD _ (Array.mem_of_getElem? (i := 0) rfl) rfl)
          clear hF hD
          have hu : Upd [] W0 W := A0
          have hc := (hu.cell (cell_lt' C9.out) (by simp)).trans C9.out
          go_simp
        · refine chain_is _ (.inl rfl) ⟨_, rfl⟩ (by kernel_rfl) rfl ?_
          intro a W kst l0 h0 A0 hF hD
          have k0 : kst = 0 := Nat.le_antisymm h0 l0
          subst k0
          clear l0 h0
          have e5 : a.tmps[5]?.getD undef = _ := (ev a 5).symm.trans (hF 5 (by kernel_rfl))
          clear hF hD
          go_simp
        · refine chain_is _ (.inl rfl) ⟨_, rfl⟩ (by kernel_rfl) rfl ?_
          intro a W kst l0 h0 A0 hF hD
          have k0 : kst = 0 := Nat.le_antisymm h0 l0
          subst k0
          clear l0 h0
          have e97 : a.tmps[97]?.getD undef = .pointer (some ⟨g, 2, none⟩) := (ev a 97).symm.trans (hD _ (Array.mem_of_getElem? (i := 0) rfl) rfl)
          clear hF hD
          have hu : Upd [] W0 W := A0
          have hc := (S6.out.x.upd hu (by simp)).cell 2
          simp only [List.size_toArray, List.length_cons, List.length_nil, List.getElem?_toArray, List.getElem?_cons_zero, List.getElem?_cons_succ] at hc
          go_simp
        · refine chain_is _ (.inl rfl) ⟨_, rfl⟩ (by kernel_rfl) rfl ?_
          intro a W kst l0 h0 A0 hF hD
          have k0 : kst = 0 := Nat.le_antisymm h0 l0
          subst k0
          clear l0 h0
          have e5 : a.tmps[5]?.getD undef = _ := (ev a 5).symm.trans (hF 5 (by kernel_rfl))
          clear hF hD
          go_simp
        · refine chain_is _ (.inl rfl) ⟨_, rfl⟩ (by kernel_rfl) rfl ?_
          intro a W kst l0 h0 A0 hF hD
          have k0 : kst = 0 := Nat.le_antisymm h0 l0
          subst k0
          clear l0 h0
          have e99 : a.tmps[99]?.getD undef = .pointer (some ⟨g, 3, none⟩) := (ev a 99).symm.trans (hD _ (Array.mem_of_getElem? (i := 0) rfl) rfl)
          clear hF hD
          have hu : Upd [] W0 W := A0
          have hc := (S6.out.x.upd hu (by simp)).cell 3
          simp only [List.size_toArray, List.length_cons, List.length_nil, List.getElem?_toArray, List.getElem?_cons_zero, List.getElem?_cons_succ] at hc
          go_simp
        · refine chain_is _ (.inl rfl) ⟨_, rfl⟩ (by kernel_rfl) rfl ?_
          intro a W kst l0 h0 A0 hF hD
          have k0 : kst = 0 := Nat.le_antisymm h0 l0
          subst k0
          clear l0 h0
          have e8 : a.tmps[8]?.getD undef = _ := (ev a 8).symm.trans (hF 8 (by kernel_rfl))
          clear hF hD
          go_simp
        · refine chain_is _ (.inl rfl) ⟨_, rfl⟩ (by kernel_rfl) rfl ?_
          intro a W kst l0 h0 A0 hF hD
          have k0 : kst = 0 := Nat.le_antisymm h0 l0
          subst k0
          clear l0 h0
          have e98 : a.tmps[98]?.getD undef = .int .i64 c.ns := (ev a 98).symm.trans (hD _ (Array.mem_of_getElem? (i := 0) rfl) rfl)
          have e100 : a.tmps[100]?.getD undef = .int .i64 c.nr := (ev a 100).symm.trans (hD _ (Array.mem_of_getElem? (i := 1) rfl) rfl)
          have e101 : a.tmps[101]?.getD undef = .string (tw ++ vls) := (ev a 101).symm.trans (hD _ (Array.mem_of_getElem? (i := 2) rfl) rfl)
          clear hF hD
          go_simp
        · refine chain_call (.inl rfl) ⟨_, rfl⟩ (by kernel_rfl) ?_
          intro a W kst l0 h0 A0 hF hD
          have k0 : kst = 0 := Nat.le_antisymm h0 l0
          subst k0
          clear l0 h0
          have e96 : a.tmps[96]?.getD undef = .pointer (some ⟨bw, 0, none⟩) := (ev a 96).symm.trans (hD _ (Array.mem_of_getElem? (i := 0) rfl) rfl)
          have e102 : a.tmps[102]?.getD undef = .agg #[.int .i64 c.ns, .int .i64 c.nr, .string (tw ++ vls)] := (ev a 102).symm.trans (hD _ (Array.mem_of_getElem? (i := 1) rfl) rfl)
          clear hF hD
          have hu : Upd [] W0 W := A0
          refine ⟨_, _, by (go_simp; first | done | rfl | exact ⟨rfl, rfl⟩), ?_⟩
          refine (HTA.out _ (HTK.out.keep hu)).mono ?_
          rintro e wq ⟨⟨ao1, cap1, rfl⟩, k2, k3⟩
          exact ⟨_, rfl, trivial, ⟨ao1, cap1, rfl⟩, k2, (hu.mono (by simp)).trans k3⟩
        · refine chain_run (.inl rfl) ⟨_, rfl⟩ (by kernel_rfl) ?_
          intro a W kst l0 h0 A0 hF hD
          have k0 : kst = 1 := Nat.le_antisymm h0 l0
          subst k0
          clear l0 h0
          clear hF hD
          obtain ⟨⟨ao1, cap1, hv⟩, k2, k3⟩ := A0
          have e103 : a.tmps[103]?.getD undef = _ := (ev a 103).symm.trans hv
          exact ⟨_, W, by (go_simp; first | done | rfl), rfl, k2, k3⟩
        · refine chain_is _ (.inl rfl) ⟨_, rfl⟩ (by kernel_rfl) rfl ?_
          intro a W kst l0 h0 A0 hF hD
          have k0 : kst = 2 := Nat.le_antisymm h0 l0
          subst k0
          clear l0 h0
          have e104 : a.tmps[104]?.getD undef = .int .i64 nn := (ev a 104).symm.trans (hD _ (Array.mem_of_getElem? (i := 0) rfl) rfl)
          clear hF hD
          go_simp
      intro vals W hv hA
      have v0 : vals 0 = .pointer (some ⟨b, 0, none⟩) := hv 0 (by decide)
      have v1 : vals 1 = .pointer (some ⟨b, 0, none⟩) := hv 1 (by decide)
      have v2 : vals 2 = .pointer (some ⟨b, 9, none⟩) := hv 2 (by decide)
      have v3 : vals 3 = .pointer (some ⟨bw, 0, none⟩) := hv 3 (by decide)
      have v4 : vals 4 = .pointer (some ⟨g, 2, none⟩) := hv 4 (by decide)
      have v5 : vals 5 = .int .i64 c.ns := hv 5 (by decide)
      have v6 : vals 6 = .pointer (some ⟨g, 3, none⟩) := hv 6 (by decide)
      have v7 : vals 7 = .int .i64 c.nr := hv 7 (by decide)
      have v8 : vals 8 = .string (tw ++ vls) := hv 8 (by decide)
      have v9 : vals 9 = .agg #[.int .i64 c.ns, .int .i64 c.nr, .string (tw ++ vls)] := hv 9 (by decide)
      have v11 : vals 11 = .int .i64 nn := hv 11 (by decide)
      have v12 : vals 12 = .bool ((nn : Int) == 0) := hv 12 (by decide)
      clear hv
      obtain ⟨k2, k3⟩ := hA
      simp only [putAll, Act.put, Nat.zero_add, Nat.reduceAdd, v0, v1, v2, v3, v4, v5, v6, v7, v8, v9, v11, v12, List.setIfInBounds_toArray, List.set_cons_zero, List.set_cons_succ]
      clear v0 v1 v2 v3 v4 v5 v6 v7 v8 v9 v11 v12
      obtain ⟨⟨own7, z1, z2⟩, z3⟩ := HBK.out W q1 ow k2 (Grew.refl _ _) k3
      have S7 := Lib.hid (S6.out.next z1 z2 z3)
      clear k2 k3 z1 z2 z3
      by_cases hn0 : nn = 0
      · have HRZ : Hid (R = ({ YT with quiet := 0, way := q1 }, [])) := by show _ = _; rw [HRB.out, if_pos (List.eq_nil_of_length_eq_zero (HNN.out.trans hn0))]
        subst hn0
        go_wp2_with fail
        go_ret
        rw [HRZ.out]
        exact TookEnd.nil (S7.out.ret (.slice none 0 0))
      · have HRZ : Hid (R = ({ YT with quiet := 0, way := q1 } : Tn).handle c) := by show _ = _; rw [HRB.out, if_neg (by rintro rfl; exact hn0 (by rw [← HNN.out]; rfl))]
        have hnb : (((nn : Nat) : Int) == 0) = false := beq_false_of_ne (by omega)
        have HPT7 : Hid (({ YT with quiet := 0, way := q1 } : Tn).secret.size ≤ 60 ∧ ({ YT with quiet := 0, way := q1 } : Tn).asked.size ≤ 400000 ∧ ({ YT with quiet := 0, way := q1 } : Tn).tape.asks ≤ 800000) := HPT.out
        generalize ({ YT with quiet := 0, way := q1 } : Tn) = T7 at *
        have b0 := S7.out.x.cell 0
        have b1 := S7.out.x.cell 1
        have b2 := S7.out.x.cell 2
        have b3 := S7.out.x.cell 3
        have b4 := S7.out.x.cell 4
        simp only [List.size_toArray, List.length_cons, List.length_nil, List.getElem?_toArray, List.getElem?_cons_zero, List.getElem?_cons_succ] at b0 b1 b2 b3 b4
        have HH : Hid (∀ W own v, Msg W b T7 own v c.l ol → Calls Tryz.prog 52 #[.pointer (some ⟨b, 0, none⟩), c.val v] W (HandleEnd W b own v (T7.handle c))) := fun W own v h => thandle_any h HPT7.out.1 HPT7.out.2.1 HPT7.out.2.2
        simp only [Cm.val] at HH
        go_wp2_with fail
        refine (HH.out _ _ _ S7.out.m).mono ?_
        rintro e w8 ⟨⟨u, own8, rfl, y1, y2, y3⟩, y4⟩
        have HFIN := Lib.hid (S7.out.took HOF.out y1 y2 y3 y4)
        rw [← HRZ.out] at HFIN
        clear y1 y2 y4 HH
        rcases y3 with ⟨-, rfl⟩ | ⟨gm, m, -, rfl, -⟩
        all_goals
          go_wp2_with fail
          go_ret
          exact HFIN.out
end Go.Proofs.YtolfjfkkbhbbbaaGreat
