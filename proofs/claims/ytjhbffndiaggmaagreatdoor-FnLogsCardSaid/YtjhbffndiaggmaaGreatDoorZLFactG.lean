/-
  Plain facts on logs: texts read back, entries found, entries added, logs joined. No program here.
-/
import Derived.Test.YtjhbffndiaggmaaGreatDoorBL41
import Derived.Test.YtjhbffndiaggmaaGreatDoorBL22
import Derived.Test.YtjhbffndiaggmaaGreatDoorZLMsgs
namespace Go.Proofs.YtjhbffndiaggmaaGreatDoor
set_option linter.unusedVariables false
set_option linter.unusedSimpArgs false

theorem sg_small {s : List Int} (h : sgB s = true) : (joinS s [32]).length ≤ 160 := by
  unfold sgB at h
  simp only [Bool.and_eq_true, inB_iff] at h
  have h2 := joinS_len (l := s) (sep := [32]) (fun n hn => by
    obtain ⟨i, hi, rfl⟩ := List.getElem_of_mem hn
    have := allB_iff.1 h.2 i hi
    omega) (by simp)
  omega
theorem p6_small {es : List Ent} (h : logB es = true) (k : Nat) (hk : k < es.length) : (p6 es[k]).length ≤ 400 := by
  obtain ⟨h1, h2, h3, h4, h5, _⟩ := log_at h k hk
  have a := (ent_text h k hk).lens.1
  have b := sg_small h4
  have c := sg_small h5
  simp only [p6, p5, p4, p3, p2, List.length_append, List.length_cons, List.length_nil]; omega
theorem ltTo_small {es : List Ent} (h : logB es = true) (k : Nat) (hk : k ≤ es.length) : (ltTo es k).length ≤ 400 * k := by
  induction k with
  | zero => simp [ltTo_zero]
  | succ k ih =>
    have h1 := ih (by omega)
    have h2 := p6_small h k (by omega)
    rw [ltTo_succ (by omega), List.length_append]; omega
theorem lt_len (es : List Ent) : (ltL es).length ≤ 12000 := by
  cases h : logB es with
  | false => rw [ltL_no h]; simp
  | true =>
    rw [ltL_yes h]
    have := ltTo_small h es.length (Nat.le_refl _)
    have := log_len h
    omega
theorem lt_back {es : List Ent} (h : logB es = true) : plL (ltL es) = es ∧ plB (ltL es) = true := by
  rw [ltL_yes h]
  obtain ⟨a, b⟩ := pl_some (plS_of h)
  exact ⟨b, a⟩
theorem ded_mem {l : List Int} {x : Int} : x ∈ dedL l ↔ x ∈ l := by
  have := (foldl_put (l := l) (s := []) List.Pairwise.nil).2 x
  simpa [dedL] using this
/-- an entry of a log is found, its message is logged, and it is an entry -/
theorem lg_entry {es : List Ent} (h : logB es = true) (i : Nat) (hi : i < es.length) :
    feB es es[i].msg es[i].part = true ∧ feV es es[i].msg es[i].part = (i : Int) ∧ hasB (mlL es) es[i].msg = true ∧ enB es[i].time es[i].msg es[i].part es[i].seen es[i].shown = true := by
  obtain ⟨h1, h2, h3, h4, h5, h6⟩ := log_at h i hi
  have hf : feB es es[i].msg es[i].part = true := feB_yes h (by rw [h6]; omega)
  refine ⟨hf, by rw [feV_yes hf, h6], ?_, ?_⟩
  · rw [mlL_yes h]
    simp only [hasB, decide_eq_true_eq, ded_mem]
    unfold mgs
    rw [List.take_length, List.mem_map]
    exact ⟨es[i], List.getElem_mem hi, rfl⟩
  · have := logB_iff.1 h |>.2 i hi
    unfold okE at this
    rw [Bool.and_eq_true] at this
    have h7 := this.1
    have e : eAt es i = es[i] := by simp [eAt, hi]
    rw [e] at h7
    exact h7
theorem ml_len (es : List Ent) : (mlL es).length ≤ 30 := by
  cases h : logB es with
  | false => rw [mlL_no h]; simp
  | true =>
    rw [mlL_yes h]
    have := dedL_len (mgs es es.length)
    have := mgs_all es
    have := log_len h
    omega
theorem ae_fact {es L : List Ent} {t m p : Int} {y z : List Int} (h : aeB es t m p y z = true) (hL : aeL es t m p y z = L) : L.length = es.length + 1 ∧ L.take es.length = es ∧ es.length ≤ 30 ∧ logB es = true := by
  rw [aeL_yes h] at hL
  subst hL
  unfold aeB at h
  rw [Bool.and_eq_true] at h
  exact ⟨by simp, by simp, log_len h.1, h.1⟩
theorem shSum_all (es : List Ent) : shSum es es.length = (es.map fun e => e.shown.length).sum := by
  unfold shSum; rw [List.take_length]
/-- joined logs have the entries of both -/
theorem jl_fact {a b L : List Ent} (h : jlB a b = true) (hL : jlL a b = L) : L.length = a.length + b.length ∧ logB a = true ∧ logB b = true ∧ logB L = true ∧ ssV L = ssV a + ssV b ∧ (0 ≤ ssV a ∧ ssV a ≤ 1048576) ∧ (0 ≤ ssV b ∧ ssV b ≤ 1048576) ∧ a.length ≤ 30 ∧ b.length ≤ 30 := by
  rw [jlL_v h, if_pos rfl] at hL
  subst hL
  unfold jlB at h
  simp only [Bool.and_eq_true] at h
  obtain ⟨⟨h1, h2⟩, h3⟩ := h
  have l1 := log_len h1
  have l2 := log_len h2
  refine ⟨jM_len _ _, h1, h2, h3, ?_, ?_, ?_, l1, l2⟩
  · rw [ssV_yes h1, ssV_yes h2, ssV_yes h3, shSum_all, shSum_all, shSum_all, ((jM_perm a b).map fun e => e.shown.length).sum_nat, List.map_append, List.sum_append]
    omega
  · rw [ssV_yes h1]
    have := shSum_le a a.length
    have := log_esz h1
    omega
  · rw [ssV_yes h2]
    have := shSum_le b b.length
    have := log_esz h2
    omega
end Go.Proofs.YtjhbffndiaggmaaGreatDoor
