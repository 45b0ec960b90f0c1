/-
  Plain laws that the statement FnTraces needs: its traces, times, last towers and first faults. No program here.
-/
import Derived.Test.YteajjbfecpffeaaPureG
import Derived.Test.YteajjbfecpffeaaFindE
import Derived.Test.YteajjbfecpffeaaPureE
namespace Go.Proofs.Yteajjbfecpffeaa
set_option linter.unusedVariables false
set_option linter.unusedSimpArgs false

/-! ### the first fault of a part -/
theorem ffB_logs {es : List (List Ent)} {m p : Int} (h : ffB es m p = true) : logsB es = true ∧ paB es m p = true := by
  simp only [ffB, Bool.and_eq_true] at h
  exact ⟨(paB_log h.1).1, h.1⟩
theorem ff_first {es : List (List Ent)} {m p a b q i : Int} {k : Nat} (h : ffB es m p = true) (hk : k < (lfL es).length) (h1 : (lfL es)[k] = [a, b, q, i]) (ha : a = m) (hb : b = p) (h2 : ∀ j (h3 : j < (lfL es).length), j < k → ffQ (lfL es)[j] m p = false) : ffK es m p = q ∧ ffT es m p = i := by
  have hx := ffX_at (m := m) (p := p) hk (by rw [h1, ffQ_at]; simp [ha, hb]) h2
  rw [h1] at hx
  exact (ff_some (ffB_logs h).2 hx).2
theorem ff_must {es : List (List Ent)} {m p : Int} (h : ffB es m p = true) (h2 : ∀ j (h3 : j < (lfL es).length), ffQ (lfL es)[j] m p = false) : False := by
  have hx := ffX_no h2
  have := (ff_none (ffB_logs h).2 hx).1
  rw [h] at this
  cases this
theorem ffQ_false {x : List Int} {a b q i m p : Int} (hx : x = [a, b, q, i]) (h : ¬ (a = m ∧ b = p)) : ffQ x m p = false := by
  rw [hx, ffQ_at]
  by_cases e : a = m
  · have : ¬ b = p := fun e2 => h ⟨e, e2⟩
    simp [this]
  · simp [e]

/-! ### a part's trace -/
theorem ltB_pa {es : List (List Ent)} {m p : Int} (h : ltB es m p = true) : paB es m p = true := by
  simp only [ltB, Bool.and_eq_true] at h
  exact h.1
theorem pa_lens {es : List (List Ent)} {m p : Int} (h : paB es m p = true) : (trL es m p).length = es.length ∧ (tmL es m p).length = es.length ∧ 1 ≤ es.length ∧ es.length ≤ 8 := by
  have := (paB_log h).2
  rw [trL_yes h, tmL_yes h, trM_len, tmM_len]
  omega
/-- the first tower with an entry of the part, among the first k -/
def seenAt (es : List (List Ent)) (m p : Int) (k : Nat) (s : Int) : Prop :=
  (s = -1 ∧ trF es m p k = none) ∨ ∃ (i q : Nat) (hi : i < es.length) (hq : q < es[i].length), s = (i : Int) ∧ i < k ∧ findI es[i] m p = (q : Int) ∧ trF es m p k = some es[i][q].seen
theorem seenAt_zero (es : List (List Ent)) (m p : Int) : seenAt es m p 0 (-1) := .inl ⟨rfl, trF_zero es m p⟩
section
variable {es : List (List Ent)} {m p s : Int} {k : Nat}
theorem pa_at (h : paB es m p = true) (hk : k < es.length) : logB es[k] = true := (logsB_iff.1 (paB_log h).1).2 k hk
theorem tr_len (h : paB es m p = true) (hk : k < es.length) : k < (trL es m p).length ∧ k < (tmL es m p).length := by have := pa_lens h; omega
/-- a tower without an entry of the part -/
theorem round_no (h : paB es m p = true) (hk : k < es.length) (hs : seenAt es m p k s) (hf : ¬ 0 ≤ findI es[k] m p) :
    (feB es[k] m p = false ∧ feV es[k] m p = 0) ∧ (trL es m p)[k]'(tr_len h hk).1 = 0 ∧ (tmL es m p)[k]'(tr_len h hk).2 = -1 ∧ seenAt es m p (k + 1) s := by
  refine ⟨⟨feB_no hf, feV_no (feB_no hf)⟩, ?_, ?_, ?_⟩
  · simp only [trL_yes h, trM_at es m p k hk (by rw [trM_len]; exact hk), trV_0 hf]
  · simp only [tmL_yes h, tmM_at, tmV_no hf]
  · rcases hs with ⟨rfl, hn⟩ | ⟨i, q, hi, hq, rfl, hik, hfi, ht⟩
    · exact .inl ⟨rfl, trF_none hn hk hf⟩
    · exact .inr ⟨i, q, hi, hq, rfl, by omega, hfi, trF_old ht⟩
/-- a tower with an entry of the part -/
theorem round_yes (h : paB es m p = true) (hk : k < es.length) (hs : seenAt es m p k s) (hf : 0 ≤ findI es[k] m p) :
    ∃ (q i q2 : Nat) (hq : q < es[k].length) (hi : i < es.length) (hq2 : q2 < es[i].length), (feB es[k] m p = true ∧ feV es[k] m p = (q : Int)) ∧ (feB es[i] m p = true ∧ feV es[i] m p = (q2 : Int)) ∧ ((s = -1 ∧ i = k) ∨ s = (i : Int)) ∧
      ((tmL es m p)[k]'(tr_len h hk).2 = es[k][q].time ∧ 0 ≤ es[k][q].time) ∧ ((trL es m p)[k]'(tr_len h hk).1 = if eqL es[k][q].shown es[i][q2].seen then 1 else 2) ∧ seenAt es m p (k + 1) (i : Int) := by
  obtain ⟨q, hfq, hq⟩ := findI_cast hf
  have hB : feB es[k] m p = true := feB_yes (pa_at h hk) hf
  have hV : feV es[k] m p = (q : Int) := (feV_yes hB).trans hfq
  have ht0 := (log_at (pa_at h hk) q hq).1.1
  have htm : (tmL es m p)[k]'(tr_len h hk).2 = es[k][q].time := by simp only [tmL_yes h, tmM_at, tmV_yes hfq hq]
  have htr : ∀ f, trF es m p (k + 1) = some f → (trL es m p)[k]'(tr_len h hk).1 = if eqL es[k][q].shown f then 1 else 2 := by
    intro f hf
    simp only [trL_yes h, trM_at es m p k hk (by rw [trM_len]; exact hk), hf, Option.getD_some]
    cases he : eqL es[k][q].shown f with
    | true => rw [trV_1 hfq hq he]; rfl
    | false => rw [trV_2 hfq hq he]; rfl
  rcases hs with ⟨rfl, hn⟩ | ⟨i, q2, hi, hq2, rfl, hik, hfi, ht⟩
  · have hnew := trF_new hn hk hfq hq
    exact ⟨q, k, q, hq, hk, hq, ⟨hB, hV⟩, ⟨hB, hV⟩, .inl ⟨rfl, rfl⟩, ⟨htm, ht0⟩, htr _ hnew, .inr ⟨k, q, hk, hq, rfl, by omega, hfq, hnew⟩⟩
  · have hold := trF_old ht
    have hB2 : feB es[i] m p = true := feB_yes (pa_at h hi) (by omega)
    exact ⟨q, i, q2, hq, hi, hq2, ⟨hB, hV⟩, ⟨hB2, (feV_yes hB2).trans hfi⟩, .inr rfl, ⟨htm, ht0⟩, htr _ hold, .inr ⟨i, q2, hi, hq2, rfl, by omega, hfi, hold⟩⟩
/-! ### the last tower -/
theorem tr_pos (h : paB es m p = true) (hk : k < es.length) : (0 ≤ findI es[k] m p → 0 < (trL es m p)[k]'(tr_len h hk).1) ∧ (¬ 0 ≤ findI es[k] m p → (trL es m p)[k]'(tr_len h hk).1 = 0) := by
  refine ⟨fun hf => ?_, fun hf => ?_⟩
  · obtain ⟨q, hfq, hq⟩ := findI_cast hf
    simp only [trL_yes h, trM_at es m p k hk (by rw [trM_len]; exact hk)]
    cases he : eqL es[k][q].shown ((trF es m p (k + 1)).getD []) with
    | true => rw [trV_1 hfq hq he]; omega
    | false => rw [trV_2 hfq hq he]; omega
  · simp only [trL_yes h, trM_at es m p k hk (by rw [trM_len]; exact hk), trV_0 hf]
theorem takeWhile_pre {α : Type} (q : α → Bool) (l : List α) (k : Nat) (hk : k < (l.takeWhile q).length) : ∃ h : k < l.length, q l[k] = true := by
  induction l generalizing k with
  | nil => simp at hk
  | cons x l ih =>
    by_cases hx : q x = true
    · rw [List.takeWhile_cons_of_pos hx] at hk
      cases k with
      | zero => exact ⟨by simp, hx⟩
      | succ k =>
        obtain ⟨h1, h2⟩ := ih k (by simpa using hk)
        exact ⟨by simpa using h1, by simpa using h2⟩
    · rw [List.takeWhile_cons_of_neg hx] at hk
      simp at hk
theorem takeWhile_end {α : Type} (q : α → Bool) (l : List α) (h : (l.takeWhile q).length < l.length) : q (l[(l.takeWhile q).length]'h) = false := by
  induction l with
  | nil => simp at h
  | cons x l ih =>
    by_cases hx : q x = true
    · simp only [List.takeWhile_cons_of_pos hx, List.length_cons, List.getElem_cons_succ] at h ⊢
      exact ih (by omega)
    · simp only [List.takeWhile_cons_of_neg hx, List.length_nil, List.getElem_cons_zero]
      simpa using hx
theorem lt_first (h : paB es m p = true) : ltB es m p = decide (0 < (trL es m p)[0]'(by have := pa_lens h; omega)) := by
  have h1 := pa_lens h
  have h0 := tr_pos h (k := 0) (by omega)
  have hl : ltB es m p = decide (0 < ltN es m p) := by simp [ltB, h]
  rw [hl]
  by_cases hf : 0 ≤ findI (es[0]'(by omega)) m p
  · have a := h0.1 hf
    have b : 0 < ltN es m p := by
      unfold ltN
      match es, h1, hf with
      | x :: es, _, hf => simp at hf; simp [hf]
    simp [a, b]
  · have a := h0.2 hf
    have b : ltN es m p = 0 := ltN_at (by omega) hf (fun j _ hj => absurd hj (by omega))
    simp [a, b]
theorem lt_all (h : ltB es m p = true) : ∃ n : Nat, ltV es m p = (n : Int) ∧ n < es.length ∧ (∀ i (hi : i < (trL es m p).length), i ≤ n → 0 < (trL es m p)[i]) ∧ (n + 1 < es.length → ∀ hi : n + 1 < (trL es m p).length, (trL es m p)[n + 1] = 0) := by
  have hp := ltB_pa h
  have hl := pa_lens hp
  have h0 : 0 < ltN es m p := by simpa [ltB, hp] using h
  have hv := ltV_at hp (k := ltN es m p) rfl
  have hlt : ltN es m p ≤ es.length := List.takeWhile_prefix (fun l => decide (0 ≤ findI l m p)) |>.length_le
  refine ⟨ltN es m p - 1, by rw [hv, if_pos (by omega)]; omega, by omega, fun i hi hin => ?_, fun hn hi => ?_⟩
  · obtain ⟨h1, h2⟩ := takeWhile_pre (fun l => decide (0 ≤ findI l m p)) es i (show i < ltN es m p by omega)
    exact (tr_pos hp h1).1 (by simpa using h2)
  · have hn2 : ltN es m p < es.length := by omega
    have he := takeWhile_end (fun l => decide (0 ≤ findI l m p)) es hn2
    have e : ltN es m p - 1 + 1 = ltN es m p := by omega
    have := (tr_pos hp hn2).2 (by
      have he' : decide (0 ≤ findI (es[ltN es m p]'hn2) m p) = false := he
      simpa using he')
    simp only [e]
    exact this
end
end Go.Proofs.Yteajjbfecpffeaa
