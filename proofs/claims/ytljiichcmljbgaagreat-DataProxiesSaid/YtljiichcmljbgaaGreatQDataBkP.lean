/- Plain: a proxy that was built is parsed as it was. -/
import Derived.Test.YtljiichcmljbgaaGreatQDataW
namespace Go.Proofs.YtljiichcmljbgaaGreat
open Go.RowKit
set_option linter.unusedSimpArgs false
set_option linter.unusedVariables false
set_option maxRecDepth 100000

/-- Two lists of values that tell a reader the same. -/
structure Tells (l m : List Av) : Prop where
  txt : ∀ k, txtAv l k = txtAv m k
  one : ∀ k, oneAv l k = oneAv m k
theorem Tells.claimed {l m : List Av} (h : Tells l m) : claimed l = claimed m := by
  have e1 : txtAv l = txtAv m := funext h.txt
  have e2 : oneAv l = oneAv m := funext h.one
  unfold Go.Proofs.YtljiichcmljbgaaGreat.claimed nrOk nrAv
  rw [e1, e2]
theorem Tells.linked {l m : List Av} (h : Tells l m) : linked l = linked m := by
  have e1 : txtAv l = txtAv m := funext h.txt
  have e2 : oneAv l = oneAv m := funext h.one
  unfold Go.Proofs.YtljiichcmljbgaaGreat.linked osOk
  rw [e1, e2]
theorem Tells.parsed {l m : List Av} (h : Tells l m) : parsed l = parsed m := by
  have e1 : txtAv l = txtAv m := funext h.txt
  unfold Go.Proofs.YtljiichcmljbgaaGreat.parsed osAv
  rw [h.claimed, h.linked, e1]
theorem cnt_more {more : List Av} (h : ∀ x ∈ more, x.vendor ≠ 0) (l : List Av) (k : Int) : cntAv k (more ++ l) = cntAv k l ∧ findAv k (more ++ l) = findAv k l := by
  have hn : ∀ x ∈ more, avIs k x = false := fun x hx => by simp [avIs, h x hx]
  refine ⟨?_, ?_⟩
  · rw [cntAv, List.countP_append, cntAv]
    have : more.countP (avIs k) = 0 := List.countP_eq_zero.2 (fun x hx => by simp [hn x hx])
    omega
  · unfold findAv
    rw [List.find?_append]
    have : more.find? (avIs k) = none := List.find?_eq_none.2 (fun x hx => by simp [hn x hx])
    rw [this, Option.none_or]
theorem tells_more {more : List Av} (h : ∀ x ∈ more, x.vendor ≠ 0) (l : List Av) : Tells (more ++ l) l :=
  ⟨fun k => by rw [txtAv, txtAv, (cnt_more h l k).1, (cnt_more h l k).2], fun k => by rw [oneAv, oneAv, (cnt_more h l k).1]⟩
/-- What the statement asks of a proxy. -/
structure Px.good (p : Px) : Prop where
  id : 0 ≤ p.id ∧ p.id ≤ 255
  kind : p.kind = 2 ∨ p.kind = 3 ∨ p.kind = 4
  k2 : p.kind = 2 → 1 ≤ p.value.size ∧ p.value.size ≤ 60
  k3 : p.kind = 3 → p.value.size = 0
  k4 : p.kind = 4 → p.id = 0 ∧ p.name.size = 0 ∧ p.value.size = 0 ∧ p.reply.size = 0
theorem size_nil {b : ByteArray} (h : b.size = 0) : b = ⟨#[]⟩ := by
  apply ByteArray.ext
  exact Array.eq_empty_of_size_eq_zero h
theorem build_all {p : Px} (h : p.build ≠ []) : p.linkBad = false ∧ p.build = p.all := by
  unfold Px.build at *
  split at h
  · exact absurd rfl h
  · rename_i h1
    rw [if_neg h1]
    split at h
    · exact absurd rfl h
    · rename_i h2
      exact ⟨by simpa using h1, by rw [if_neg h2]⟩
theorem link_opts {p : Px} (h : p.linkBad = false) : getOpts (encOpts p.first) = (p.first, 0) ∧ getOpts (encOpts p.tx) = (p.tx, 0) ∧ getOpts (encOpts p.rx) = (p.rx, 0) := by
  simp only [Px.linkBad, Bool.or_eq_false_iff, Bool.not_eq_false', decide_eq_true_eq] at h
  have key : ∀ l : List Tg, (putOpts l).2 = 0 → getOpts (encOpts l) = (l, 0) := fun l hl => by
    obtain ⟨b, e, hp⟩ : ∃ b e, putOpts l = (b, e) := ⟨_, _, rfl⟩
    rw [hp] at hl
    simp only at hl
    subst hl
    obtain ⟨-, h1, h2⟩ := putOpts_ok hp
    rw [getOpts_all l (fun t ht => h2 t ht), if_neg (by omega)]
  exact ⟨key _ h.1, key _ h.2.1, key _ h.2.2⟩
theorem nr_be (v : Int) (h : 0 ≤ v ∧ v < 65536) : (valueB (be 2 v)).1 = v := by
  rw [valueB, be_size, if_neg (by omega)]
  exact num_be 2 v (by simpa using h)
theorem low8_id {n : Int} (h : 0 ≤ n ∧ n ≤ 255) : low8 n = n := by
  have e : low8 n = n % 256 := i64_mask n 8 (by omega)
  rw [e]; omega
theorem linked_of {B : List Av} {f t r : List Tg} (h1 : txtAv B 26 = encOpts f ∧ txtAv B 27 = encOpts t ∧ txtAv B 28 = encOpts r) (h2 : oneAv B 26 = true ∧ oneAv B 27 = true ∧ oneAv B 28 = true)
    (o1 : getOpts (encOpts f) = (f, 0)) (o2 : getOpts (encOpts t) = (t, 0)) (o3 : getOpts (encOpts r) = (r, 0)) : linked B = true ∧ osAv B 26 = f ∧ osAv B 27 = t ∧ osAv B 28 = r := by
  refine ⟨?_, ?_, ?_, ?_⟩
  · unfold linked osOk
    rw [h1.1, h1.2.1, h1.2.2, h2.1, h2.2.1, h2.2.2, o1, o2, o3]
    rfl
  · rw [osAv, h1.1, o1]
  · rw [osAv, h1.2.1, o2]
  · rw [osAv, h1.2.2, o3]
theorem nrOk_be {B : List Av} {k v lo hi : Int} (h1 : txtAv B k = be 2 v) (h2 : oneAv B k = true) (hv : 0 ≤ v ∧ v < 65536) (hl : lo ≤ v ∧ v ≤ hi) : nrAv B k = v ∧ nrOk B k lo hi = true := by
  have e : nrAv B k = v := by rw [nrAv, h1, nr_be v hv]
  refine ⟨e, ?_⟩
  unfold nrOk
  rw [e, h1, h2, be_size, decide_eq_true hl.1, decide_eq_true hl.2]
  rfl
theorem px_back {p : Px} (hg : p.good) (hb : p.build ≠ []) : (parsed p.build = p ∧ linked p.build = true) ∧ (claimed p.build).2 = true := by
  obtain ⟨hl, he⟩ := build_all hb
  obtain ⟨o1, o2, o3⟩ := link_opts hl
  have hid := hg.id
  have hlow := low8_id hid
  rw [he]
  obtain ⟨f, t, r, k, i, n, v, y⟩ := p
  simp only at *
  rcases hg.kind with hk | hk | hk
  all_goals
    simp only at hk
    subst hk
  · obtain ⟨h1, h2⟩ := hg.k2 rfl
    simp only at h1 h2
    obtain ⟨B, hB⟩ : ∃ B, B = Px.all ⟨f, t, r, 2, i, n, v, y⟩ := ⟨_, rfl⟩
    have hB' : B = [textAv 26 (encOpts f), textAv 27 (encOpts t), textAv 28 (encOpts r), numAv 29 2 2, textAv 30 n, numAv 32 (low8 i) 2, textAv 31 v, textAv 33 y] := hB
    rw [← hB]
    rw [hlow] at hB'
    obtain ⟨l1, l2, l3, l4⟩ := linked_of (B := B) (by rw [hB']; exact ⟨rfl, rfl, rfl⟩) (by rw [hB']; exact ⟨rfl, rfl, rfl⟩) o1 o2 o3
    obtain ⟨n1, n2⟩ := nrOk_be (B := B) (k := 29) (v := 2) (lo := 2) (hi := 4) (by rw [hB']; rfl) (by rw [hB']; rfl) (by omega) (by omega)
    obtain ⟨n3, n4⟩ := nrOk_be (B := B) (k := 32) (v := i) (lo := 0) (hi := 255) (by rw [hB']; rfl) (by rw [hB']; rfl) (by omega) (by omega)
    have t30 : txtAv B 30 = n ∧ oneAv B 30 = true := by rw [hB']; exact ⟨rfl, rfl⟩
    have t33 : txtAv B 33 = y ∧ oneAv B 33 = true := by rw [hB']; exact ⟨rfl, rfl⟩
    have t31 : txtAv B 31 = v ∧ oneAv B 31 = true := by rw [hB']; exact ⟨rfl, rfl⟩
    have hc : claimed B = (⟨[], [], [], 2, i, n, v, y⟩, true) := by
      unfold claimed
      rw [n1, n2, n3, n4, t30.1, t30.2, t33.1, t33.2, t31.1, t31.2, if_neg (by simp), if_pos rfl, decide_eq_false (show ¬ v.size = 0 by omega), decide_eq_true h2]
      rfl
    refine ⟨⟨?_, l1⟩, by rw [hc]⟩
    unfold parsed
    rw [hc, l1, l2, l3, l4]
    rfl
  · have h1 := hg.k3 rfl
    simp only at h1
    obtain rfl := size_nil h1
    obtain ⟨B, hB⟩ : ∃ B, B = Px.all ⟨f, t, r, 3, i, n, ⟨#[]⟩, y⟩ := ⟨_, rfl⟩
    have hB' : B = [textAv 26 (encOpts f), textAv 27 (encOpts t), textAv 28 (encOpts r), numAv 29 3 2, textAv 30 n, numAv 32 (low8 i) 2, textAv 33 y] := hB
    rw [← hB]
    rw [hlow] at hB'
    obtain ⟨l1, l2, l3, l4⟩ := linked_of (B := B) (by rw [hB']; exact ⟨rfl, rfl, rfl⟩) (by rw [hB']; exact ⟨rfl, rfl, rfl⟩) o1 o2 o3
    obtain ⟨n1, n2⟩ := nrOk_be (B := B) (k := 29) (v := 3) (lo := 2) (hi := 4) (by rw [hB']; rfl) (by rw [hB']; rfl) (by omega) (by omega)
    obtain ⟨n3, n4⟩ := nrOk_be (B := B) (k := 32) (v := i) (lo := 0) (hi := 255) (by rw [hB']; rfl) (by rw [hB']; rfl) (by omega) (by omega)
    have t30 : txtAv B 30 = n ∧ oneAv B 30 = true := by rw [hB']; exact ⟨rfl, rfl⟩
    have t33 : txtAv B 33 = y ∧ oneAv B 33 = true := by rw [hB']; exact ⟨rfl, rfl⟩
    have hc : claimed B = (⟨[], [], [], 3, i, n, ⟨#[]⟩, y⟩, true) := by
      unfold claimed
      rw [n1, n2, n3, n4, t30.1, t30.2, t33.1, t33.2, if_neg (by simp), if_neg (by simp)]
      rfl
    refine ⟨⟨?_, l1⟩, by rw [hc]⟩
    unfold parsed
    rw [hc, l1, l2, l3, l4]
    rfl
  · obtain ⟨h0, h1, h2, h3⟩ := hg.k4 rfl
    simp only at h0 h1 h2 h3
    obtain rfl := size_nil h1
    obtain rfl := size_nil h2
    obtain rfl := size_nil h3
    subst h0
    obtain ⟨B, hB⟩ : ∃ B, B = Px.all ⟨f, t, r, 4, 0, ⟨#[]⟩, ⟨#[]⟩, ⟨#[]⟩⟩ := ⟨_, rfl⟩
    have hB' : B = [textAv 26 (encOpts f), textAv 27 (encOpts t), textAv 28 (encOpts r), numAv 29 4 2] := hB
    rw [← hB]
    obtain ⟨l1, l2, l3, l4⟩ := linked_of (B := B) (by rw [hB']; exact ⟨rfl, rfl, rfl⟩) (by rw [hB']; exact ⟨rfl, rfl, rfl⟩) o1 o2 o3
    obtain ⟨n1, n2⟩ := nrOk_be (B := B) (k := 29) (v := 4) (lo := 2) (hi := 4) (by rw [hB']; rfl) (by rw [hB']; rfl) (by omega) (by omega)
    have hc : claimed B = (⟨[], [], [], 4, 0, ⟨#[]⟩, ⟨#[]⟩, ⟨#[]⟩⟩, true) := by
      unfold claimed
      rw [n1, n2, if_pos (by simp)]
      rfl
    refine ⟨⟨?_, l1⟩, by rw [hc]⟩
    unfold parsed
    rw [hc, l1, l2, l3, l4]
    rfl
/-- With its first value once more at the end, the link is not good; the claim is as it was. -/
theorem px_twice {p : Px} (hb : p.build ≠ []) : linked (p.build ++ [textAv 26 (encOpts p.first)]) = false ∧ claimed (p.build ++ [textAv 26 (encOpts p.first)]) = claimed p.build ∧ p.build[0]? = some (textAv 26 (encOpts p.first)) := by
  obtain ⟨hl, he⟩ := build_all hb
  have hh : p.build = textAv 26 (encOpts p.first) :: p.build.tail := by rw [he]; rfl
  obtain ⟨c, hc⟩ : ∃ c, c = textAv 26 (encOpts p.first) := ⟨_, rfl⟩
  rw [← hc] at hh ⊢
  have hc26 : avIs 26 c = true := by rw [hc]; rfl
  have hck : ∀ k, k ≠ 26 → avIs k c = false := fun k hk => by
    rw [hc]
    simp [avIs, textAv]
    exact fun e => hk e.symm
  have hne : oneAv (p.build ++ [c]) 26 = false := by
    rw [oneAv, hh, cntAv, List.cons_append, List.countP_cons, List.countP_append, hc26]
    simp [hc26]
  have hsame : ∀ k, k ≠ 26 → txtAv (p.build ++ [c]) k = txtAv p.build k ∧ oneAv (p.build ++ [c]) k = oneAv p.build k := fun k hk => by
    have h1 : cntAv k (p.build ++ [c]) = cntAv k p.build := by
      rw [cntAv, List.countP_append, cntAv]
      simp [hck k hk]
    have h2 : findAv k (p.build ++ [c]) = findAv k p.build := by
      unfold findAv
      rw [List.find?_append]
      simp [hck k hk]
    exact ⟨by rw [txtAv, txtAv, h1, h2], by rw [oneAv, oneAv, h1]⟩
  refine ⟨?_, ?_, by rw [hh]; rfl⟩
  · rw [linked, osOk, hne]; rfl
  · unfold claimed nrOk nrAv
    rw [(hsame 29 (by decide)).1, (hsame 29 (by decide)).2, (hsame 30 (by decide)).1, (hsame 30 (by decide)).2, (hsame 31 (by decide)).1, (hsame 31 (by decide)).2, (hsame 32 (by decide)).1, (hsame 32 (by decide)).2, (hsame 33 (by decide)).1, (hsame 33 (by decide)).2]
end Go.Proofs.YtljiichcmljbgaaGreat
