/-
  Plain functions on logs: two logs joined by time, and what joins them step by step. No program here.
-/
import Derived.Test.YteajjbfecpffeaaPureE
namespace Go.Proofs.Yteajjbfecpffeaa
set_option linter.unusedVariables false
set_option linter.unusedSimpArgs false

/-- joined by time; of equal times those of a first -/
def jM (a b : List Ent) : List Ent := List.merge a b (fun x y => decide (x.time ≤ y.time))
def jlB (a b : List Ent) : Bool := (logB a && logB b) && logB (jM a b)
def jlL (a b : List Ent) : List Ent := if jlB a b then jM a b else []
theorem jlB_a {a b : List Ent} (h : logB a = false) : jlB a b = false := by simp [jlB, h]
theorem jlB_b {a b : List Ent} (h : logB b = false) : jlB a b = false := by simp [jlB, h]
theorem jlB_v {a b : List Ent} {v : Bool} (h1 : logB a = true) (h2 : logB b = true) (h : logB (jM a b) = v) : jlB a b = v := by simp [jlB, h1, h2, h]
theorem jlL_no {a b : List Ent} (h : jlB a b = false) : jlL a b = [] := by simp [jlL, h]
theorem jlL_v {a b : List Ent} {v : Bool} (h : jlB a b = v) : jlL a b = if v = true then jM a b else [] := by simp [jlL, h]
theorem jM_len (a b : List Ent) : (jM a b).length = a.length + b.length := List.length_merge _ _ _
theorem jM_perm (a b : List Ent) : (jM a b).Perm (a ++ b) := List.merge_perm_append _
theorem jM_esz (a b : List Ent) : eszL (jM a b) = eszL a + eszL b := by
  rw [← esz_append, esz_sum, esz_sum]
  exact ((jM_perm a b).map eW).sum_nat
theorem jl_esz {a b : List Ent} : eszL (jlL a b) ≤ 1048576 := by
  unfold jlL
  split
  · rename_i h
    simp only [jlB, Bool.and_eq_true] at h
    have := log_esz h.2
    omega
  · rw [esz_nil]; omega
/-! ### step by step: what has been taken, and what is still to be joined -/
/-- i of a and k of b have been taken into out -/
def jAt (a b : List Ent) (i k : Nat) (out : List Ent) : Prop := out ++ jM (a.drop i) (b.drop k) = jM a b ∧ i ≤ a.length ∧ k ≤ b.length ∧ out.length = i + k ∧ eszL out = eszL (a.take i) + eszL (b.take k)
theorem jAt_start (a b : List Ent) : jAt a b 0 0 [] := ⟨by simp, Nat.zero_le _, Nat.zero_le _, rfl, by simp [esz_nil]⟩
theorem jAt_esz {a b : List Ent} {i k : Nat} {out : List Ent} (h : jAt a b i k out) : eszL out ≤ eszL a + eszL b := by
  have := esz_take a i
  have := esz_take b k
  have := h.2.2.2.2
  omega
theorem jAt_a {a b : List Ent} {i k : Nat} {out : List Ent} (h : jAt a b i k out) (hi : i < a.length) (hk : k < b.length) (ht : a[i].time ≤ b[k].time) : jAt a b (i + 1) k (out ++ [a[i]]) := by
  obtain ⟨h1, h2, h3, h4, h5⟩ := h
  refine ⟨?_, by omega, h3, by simp [h4]; omega, ?_⟩
  · rw [← h1, List.drop_eq_getElem_cons hi, List.drop_eq_getElem_cons hk, List.append_assoc]
    unfold jM
    rw [List.cons_merge_cons, if_pos (by simpa using ht)]
    rfl
  · rw [esz_append, h5, List.take_succ_eq_append_getElem hi, esz_append]; omega
theorem jAt_b {a b : List Ent} {i k : Nat} {out : List Ent} (h : jAt a b i k out) (hk : k < b.length) (ht : ∀ hi : i < a.length, ¬ a[i].time ≤ b[k].time) : jAt a b i (k + 1) (out ++ [b[k]]) := by
  obtain ⟨h1, h2, h3, h4, h5⟩ := h
  refine ⟨?_, h2, by omega, by simp [h4]; omega, ?_⟩
  · rw [← h1, List.drop_eq_getElem_cons hk, List.append_assoc]
    unfold jM
    by_cases hi : i < a.length
    · rw [List.drop_eq_getElem_cons hi, List.cons_merge_cons, if_neg (by simpa using ht hi)]
      rfl
    · rw [List.drop_eq_nil_of_le (by omega), List.nil_merge, List.nil_merge]
      rfl
  · rw [esz_append, h5, List.take_succ_eq_append_getElem hk, esz_append]; omega
theorem jAt_end {a b : List Ent} {i : Nat} {out : List Ent} (h : jAt a b i b.length out) : out ++ a.drop i = jM a b := by
  have := h.1
  rw [List.drop_length] at this
  unfold jM at this ⊢
  rwa [List.merge_right] at this
end Go.Proofs.Yteajjbfecpffeaa
