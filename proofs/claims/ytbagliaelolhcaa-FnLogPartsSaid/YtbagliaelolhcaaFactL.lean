/-
  Plain facts on parts of logs. No program here.
-/
import Derived.Test.YtbagliaelolhcaaPureE
import Derived.Test.YtbagliaelolhcaaChanged
namespace Go.Proofs.Ytbagliaelolhcaa
set_option linter.unusedVariables false
set_option linter.unusedSimpArgs false

/-- an entry is told among the changed ones just if something else was shown -/
theorem ce_has {es : List Ent} (h : logB es = true) {k : Nat} (hk : k < es.length) : hasB (ceL es) (k : Int) = !eqL es[k].seen es[k].shown := by
  rw [ceL_yes h]
  cases hq : eqL es[k].seen es[k].shown with
  | true =>
    simp only [hasB, Bool.not_true, decide_eq_false_iff_not]
    intro hx
    unfold ceTo at hx
    rw [List.mem_map] at hx
    obtain ⟨j, hj, e⟩ := hx
    have : j = k := by omega
    subst this
    rw [List.mem_filter] at hj
    have := hj.2
    simp [hk, hq] at this
  | false =>
    simp only [hasB, Bool.not_false, decide_eq_true_eq]
    unfold ceTo
    rw [List.mem_map]
    refine ⟨k, ?_, rfl⟩
    rw [List.mem_filter]
    exact ⟨List.mem_range.2 hk, by simp [hk, hq]⟩
theorem ce_len (es : List Ent) : (ceL es).length ≤ es.length := by
  unfold ceL; split
  · exact ceTo_len _ _
  · simp
/-- what EntriesFrom gives lies in the span -/
theorem ef_in {es : List Ent} {f t : Int} (h : efB es f t = true) {k : Nat} (hk : k < (efL es f t).length) : f ≤ (efL es f t)[k].time ∧ (efL es f t)[k].time ≤ t := by
  have key : ∀ x ∈ efL es f t, f ≤ x.time ∧ x.time ≤ t := by
    rw [efL_yes h]
    intro x hx
    unfold selTo at hx
    exact inB_iff.1 (List.mem_filter.1 hx).2
  exact key _ (List.getElem_mem hk)
theorem ef_bd {es : List Ent} {f t : Int} (h : efB es f t = true) : logB es = true ∧ (0 ≤ f ∧ f ≤ 10000) ∧ (0 ≤ t ∧ t ≤ 10000) := by
  unfold efB at h
  simp only [Bool.and_eq_true, inB_iff] at h
  exact h
theorem ef_rest {es : List Ent} {f t : Int} (h : efB es f t = true) (ht : t < 10000) : efB es (t + 1) 10000 = true ∧ efB es f 10000 = true := by
  obtain ⟨h1, h2, h3⟩ := ef_bd h
  unfold efB
  simp only [Bool.and_eq_true, inB_iff]
  exact ⟨⟨h1, by omega, by omega⟩, h1, h2, by omega⟩
theorem sel_split (es : List Ent) (f t : Int) (hf : f ≤ t) (ht : t ≤ 10000) : (es.filter fun e => inB e.time f t).length + (es.filter fun e => inB e.time (t + 1) 10000).length = (es.filter fun e => inB e.time f 10000).length := by
  induction es with
  | nil => rfl
  | cons e l ih =>
    simp only [List.filter_cons]
    have e1 : inB e.time f t = decide (f ≤ e.time ∧ e.time ≤ t) := by
      cases hq : inB e.time f t with
      | true => have := inB_iff.1 hq; simp [this]
      | false => symm; rw [decide_eq_false_iff_not]; intro h; rw [inB_iff.2 h] at hq; cases hq
    have e2 : inB e.time (t + 1) 10000 = decide (t + 1 ≤ e.time ∧ e.time ≤ 10000) := by
      cases hq : inB e.time (t + 1) 10000 with
      | true => have := inB_iff.1 hq; simp [this]
      | false => symm; rw [decide_eq_false_iff_not]; intro h; rw [inB_iff.2 h] at hq; cases hq
    have e3 : inB e.time f 10000 = decide (f ≤ e.time ∧ e.time ≤ 10000) := by
      cases hq : inB e.time f 10000 with
      | true => have := inB_iff.1 hq; simp [this]
      | false => symm; rw [decide_eq_false_iff_not]; intro h; rw [inB_iff.2 h] at hq; cases hq
    rw [e1, e2, e3]
    by_cases a : f ≤ e.time ∧ e.time ≤ t
    · have b : ¬ (t + 1 ≤ e.time ∧ e.time ≤ 10000) := by omega
      have c : f ≤ e.time ∧ e.time ≤ 10000 := by omega
      rw [decide_eq_true a, decide_eq_false b, decide_eq_true c, if_pos rfl, if_neg (by decide), if_pos rfl, List.length_cons, List.length_cons]
      omega
    · by_cases b : t + 1 ≤ e.time ∧ e.time ≤ 10000
      · have c : f ≤ e.time ∧ e.time ≤ 10000 := by omega
        rw [decide_eq_false a, decide_eq_true b, decide_eq_true c, if_neg (by decide), if_pos rfl, if_pos rfl, List.length_cons, List.length_cons]
        omega
      · have c : ¬ (f ≤ e.time ∧ e.time ≤ 10000) := by omega
        rw [decide_eq_false a, decide_eq_false b, decide_eq_false c, if_neg (by decide), if_neg (by decide), if_neg (by decide)]
        exact ih
/-- two spans that follow each other -/
theorem ef_split {es : List Ent} {f t : Int} (h : efB es f t = true) (hf : f ≤ t) (ht : t < 10000) : (efL es f t).length + (efL es (t + 1) 10000).length = (efL es f 10000).length := by
  obtain ⟨h1, h2⟩ := ef_rest h ht
  rw [efL_yes h, efL_yes h1, efL_yes h2]
  unfold selTo
  rw [List.take_length]
  exact sel_split es f t hf (by omega)
theorem ef_len (es : List Ent) (f t : Int) : (efL es f t).length ≤ es.length := by
  unfold efL; split
  · exact selTo_len _ _ _ _
  · simp
end Go.Proofs.Ytbagliaelolhcaa
