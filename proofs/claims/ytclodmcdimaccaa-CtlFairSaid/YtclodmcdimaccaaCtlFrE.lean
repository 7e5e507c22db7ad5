/- Plain: how CtlFair's rounds end, whatever the first number. -/
import Derived.Test.YtclodmcdimaccaaCtlFrK
import Derived.Test.YtclodmcdimaccaaCtlFrL
namespace Go.Proofs.Ytclodmcdimaccaa

theorem frSent_length (n : Nat) : (frSent n).length = n := by
  induction n with
  | zero => rfl
  | succ n ih => simp [frSent, ih]
theorem frC_eq (w f : Int) : ∀ n, n ≤ 40 → frC n (C.new w 40 5 2 f) = { C.new w 40 5 2 f with waits := frSent n }
  | 0, _ => rfl
  | n + 1, h => by
    rw [frC, frC_eq w f n (by omega)]
    unfold C.send
    rw [if_neg (by simp [C.new]), if_neg (by simp [frMsg, ByteArray.size]), if_neg (by simp [C.new, frSent_length]; omega)]
    rfl
theorem frC_send (w f : Int) (n : Nat) (h : n < 40) : ((frC n (C.new w 40 5 2 f)).send (frMsg n)).2 = 0 := by
  rw [frC_eq w f n (by omega)]
  unfold C.send
  rw [if_neg (by simp [C.new]), if_neg (by simp [frMsg, ByteArray.size]), if_neg (by simp [C.new, frSent_length]; omega)]
theorem frC_ok {c : C} (h : c.ok) : ∀ n, (frC n c).ok
  | 0 => h
  | n + 1 => C.send_ok (frC_ok h n) _
theorem frStart_ok {w f : Int} (h : NewOk w 40 5 2 f) (n lost : Nat) : (frStart w f n lost).ok := ⟨frC_ok (C.new_ok h) n, C.new_ok h⟩
theorem frC_small {c : C} (h : c.small) : ∀ n, (frC n c).small
  | 0 => h
  | n + 1 => C.small_send (frC_small h n) _
theorem frStart_fit {w f : Int} (h : NewOk w 40 5 2 f) (n lost : Nat) (hl : lost ≤ 3) : (frStart w f n lost).fit :=
  ⟨frStart_ok h n lost, frC_small ⟨by simp [C.new], by simp [C.new]⟩ n, ⟨by simp [frStart, C.new], by simp [frStart, C.new]⟩, hl⟩
theorem frStart_sh (w f : Int) (hf : 0 ≤ f ∧ f ≤ 65535) {n : Nat} (hn : n ≤ 40) (lost : Nat) : frStart w f n lost = (frStart w 0 n lost).sh f := by
  unfold frStart
  rw [frC_eq w f n hn, frC_eq w 0 n hn, C.sh_new w 40 5 2 f hf]
  rfl
theorem frPlain_inj {l m : List ByteArray} (h : frPlain l = frPlain m) : l = m := by
  unfold frPlain at h
  refine (List.map_inj_right ?_).1 h
  intro a b hab
  exact ByteArray.ext (Array.toList_inj.1 hab)
theorem fair_end (window first : Int) (hw : 1 ≤ window ∧ window ≤ 8) (hf : 0 ≤ first ∧ first ≤ 65535) (N lost : Nat) (hN : N ≤ 40) (hl : lost ≤ 3) :
    (frRun 400 (frStart window first N lost)).a.waits = [] ∧ (frRun 400 (frStart window first N lost)).a.flies = [] ∧ (frRun 400 (frStart window first N lost)).a.dead = false ∧
    (frRun 400 (frStart window first N lost)).b.dead = false ∧ (frRun 400 (frStart window first N lost)).got = frSent N := by
  obtain ⟨w, hw'⟩ := Int.eq_ofNat_of_zero_le (show 0 ≤ window - 1 by omega)
  obtain rfl : window = (w : Int) + 1 := by omega
  have hc : frCheck w N lost = true := by
    have : lost = 0 ∨ lost = 1 ∨ lost = 2 ∨ lost = 3 := by omega
    rcases this with rfl | rfl | rfl | rfl
    · exact frCheck_all0 w (by omega) N (by omega)
    · exact frCheck_all1 w (by omega) N (by omega)
    · exact frCheck_all2 w (by omega) N (by omega)
    · exact frCheck_all3 w (by omega) N (by omega)
  have h0 : (frStart ((w : Int) + 1) 0 N lost).ok := frStart_ok (by constructor <;> omega) N lost
  unfold frCheck at hc
  obtain ⟨M, hM⟩ : ∃ M, M = 100 := ⟨_, rfl⟩
  obtain ⟨J, hJ⟩ : ∃ J, J = 400 := ⟨_, rfl⟩
  rw [← hM] at hc
  rw [← hJ]
  obtain ⟨h1, h2, h3⟩ := frEnds_spec _ M _ hc J (by omega)
  rw [frStart_sh _ first hf hN, Fair.sh_run h0]
  obtain ⟨a1, a2, _, _, a5⟩ := C.idle_parts h1
  obtain ⟨_, _, _, _, b5⟩ := C.idle_parts h2
  exact ⟨a1, a2, a5, b5, frPlain_inj h3⟩
end Go.Proofs.Ytclodmcdimaccaa
