/-
  Plain functions for what is asked of a line's faults and of a part's trace, and their laws. No program here.
-/
import Derived.Test.YteajjbfecpffeaaPureF
import Derived.Test.YteajjbfecpffeaaTower
namespace Go.Proofs.Yteajjbfecpffeaa
set_option linter.unusedVariables false
set_option linter.unusedSimpArgs false

/-- a fault is one of a part -/
def ffQ (x : List Int) (m p : Int) : Bool := decide (x[0]? = some m) && decide (x[1]? = some p)
theorem ffQ_at (a b q i m p : Int) : ffQ [a, b, q, i] m p = (decide (a = m) && decide (b = p)) := by simp [ffQ]
def ffX (fs : List (List Int)) (m p : Int) : Option (List Int) := fs.find? fun x => ffQ x m p
theorem ffX_at {fs : List (List Int)} {m p : Int} {k : Nat} (h : k < fs.length) (h1 : ffQ fs[k] m p = true) (h2 : ∀ j (h3 : j < fs.length), j < k → ffQ fs[j] m p = false) : ffX fs m p = some fs[k] := by
  unfold ffX
  rw [List.find?_eq_some_iff_getElem]
  exact ⟨h1, k, h, rfl, fun j hj => by simp [h2 j (by omega) hj]⟩
theorem ffX_no {fs : List (List Int)} {m p : Int} (h2 : ∀ j (h3 : j < fs.length), ffQ fs[j] m p = false) : ffX fs m p = none := by
  unfold ffX
  rw [List.find?_eq_none]
  intro x hx
  obtain ⟨j, hj, rfl⟩ := List.getElem_of_mem hx
  simp [h2 j hj]
def ffB (es : List (List Ent)) (m p : Int) : Bool := paB es m p && (ffX (lfL es) m p).isSome
def ffK (es : List (List Ent)) (m p : Int) : Int := if paB es m p then (match ffX (lfL es) m p with | some x => x[2]?.getD 0 | none => 0) else 0
def ffT (es : List (List Ent)) (m p : Int) : Int := if paB es m p then (match ffX (lfL es) m p with | some x => x[3]?.getD 0 | none => 0) else 0
theorem ff_bad {es : List (List Ent)} {m p : Int} (h : paB es m p = false) : ffB es m p = false ∧ ffK es m p = 0 ∧ ffT es m p = 0 := by simp [ffB, ffK, ffT, h]
theorem ff_none {es : List (List Ent)} {m p : Int} (h : paB es m p = true) (h1 : ffX (lfL es) m p = none) : ffB es m p = false ∧ ffK es m p = 0 ∧ ffT es m p = 0 := by simp [ffB, ffK, ffT, h, h1]
theorem ff_some {es : List (List Ent)} {m p a b q i : Int} (h : paB es m p = true) (h1 : ffX (lfL es) m p = some [a, b, q, i]) : ffB es m p = true ∧ ffK es m p = q ∧ ffT es m p = i := by simp [ffB, ffK, ffT, h, h1]

/-- the greatest of numbers that are not negative -/
def mxL (cs : List Int) : Int := cs.foldl max 0
theorem foldl_max_le (cs : List Int) (a M : Int) (ha : a ≤ M) (h : ∀ x ∈ cs, x ≤ M) : cs.foldl max a ≤ M := by
  induction cs generalizing a with
  | nil => exact ha
  | cons x cs ih => exact ih (max a x) (by have := h x (by simp); omega) fun y hy => h y (by simp [hy])
theorem foldl_max_ge (cs : List Int) (a : Int) : a ≤ cs.foldl max a ∧ ∀ x ∈ cs, x ≤ cs.foldl max a := by
  induction cs generalizing a with
  | nil => exact ⟨Int.le_refl _, fun x h => absurd h (by simp)⟩
  | cons x cs ih =>
    have h1 := ih (max a x)
    refine ⟨by simp only [List.foldl_cons]; omega, fun y hy => ?_⟩
    rcases List.mem_cons.1 hy with rfl | hy
    · simp only [List.foldl_cons]; omega
    · exact h1.2 y hy
theorem mxL_eq {cs : List Int} {M : Int} (h : ∀ k (_ : k < cs.length), cs[k] ≤ M) (h0 : 0 ≤ M) (h2 : M = 0 ∨ ∃ j, ∃ h : j < cs.length, cs[j] = M) : mxL cs = M := by
  have h1 : mxL cs ≤ M := foldl_max_le cs 0 M h0 fun x hx => by
    obtain ⟨k, hk, rfl⟩ := List.getElem_of_mem hx
    exact h k hk
  have h3 := foldl_max_ge cs 0
  rcases h2 with rfl | ⟨j, hj, e⟩
  · have := h3.1; unfold mxL at *; omega
  · have := h3.2 _ (List.getElem_mem hj); unfold mxL at *; omega
def msM (es : List (List Ent)) : Int := if logsB es then mxL (fcTo (lfL es) es.length (lfL es).length) else 0
def msI (es : List (List Ent)) : Int := if 0 < msM es then idxI (fcTo (lfL es) es.length (lfL es).length) (msM es) else 0
def msB (es : List (List Ent)) : Bool := decide (0 < msM es)
theorem ms_bad {es : List (List Ent)} (h : logsB es = false) : msM es = 0 ∧ msI es = 0 ∧ msB es = false := by simp [msM, msI, msB, h]
theorem ms_at {es : List (List Ent)} {M : Int} (h : logsB es = true) (h1 : mxL (fcTo (lfL es) es.length (lfL es).length) = M) : msM es = M ∧ msB es = decide (0 < M) := by simp [msM, msB, h, h1]
theorem ms_zero {es : List (List Ent)} (h : msM es = 0) : msI es = 0 := by simp [msI, h]
theorem ms_idx {es : List (List Ent)} {M v : Int} (h : msM es = M) (h0 : 0 < M) (h1 : idxI (fcTo (lfL es) es.length (lfL es).length) M = v) : msI es = v := by simp [msI, h, h0, h1]

/-- what the first of the first k towers with an entry of the part has seen -/
def trF (es : List (List Ent)) (m p : Int) (k : Nat) : Option (List Int) := match (es.take k).find? (fun l => decide (0 ≤ findI l m p)) with | some l => (match l[(findI l m p).toNat]? with | some e => some e.seen | none => none) | none => none
theorem trF_zero (es : List (List Ent)) (m p : Int) : trF es m p 0 = none := by simp [trF]
theorem trF_old {es : List (List Ent)} {m p : Int} {k : Nat} {f : List Int} (h : trF es m p k = some f) : trF es m p (k + 1) = some f := by
  unfold trF at *
  by_cases hk : k < es.length
  · rw [List.take_succ_eq_append_getElem hk, List.find?_append]
    cases hf : (es.take k).find? (fun l => decide (0 ≤ findI l m p)) with
    | none => rw [hf] at h; simp at h
    | some l => rw [hf] at h; simpa using h
  · rw [List.take_of_length_le (by omega)] at h ⊢; exact h
theorem find_none_of_trF {es : List (List Ent)} {m p : Int} {k : Nat} (h : trF es m p k = none) : (es.take k).find? (fun l => decide (0 ≤ findI l m p)) = none := by
  unfold trF at h
  cases hf : (es.take k).find? (fun l => decide (0 ≤ findI l m p)) with
  | none => rfl
  | some l =>
    rw [hf] at h
    have h0 := List.find?_some hf
    obtain ⟨q, hq, hql⟩ := findI_cast (by simpa using h0)
    simp [hq, hql] at h
theorem trF_new {es : List (List Ent)} {m p : Int} {k q : Nat} (h : trF es m p k = none) (hk : k < es.length) (hq : findI es[k] m p = (q : Int)) (hql : q < es[k].length) : trF es m p (k + 1) = some es[k][q].seen := by
  have hf := find_none_of_trF h
  unfold trF
  rw [List.take_succ_eq_append_getElem hk, List.find?_append, hf]
  simp [hq, hql]
theorem trF_none {es : List (List Ent)} {m p : Int} {k : Nat} (h : trF es m p k = none) (hk : k < es.length) (hq : ¬ 0 ≤ findI es[k] m p) : trF es m p (k + 1) = none := by
  have hf := find_none_of_trF h
  unfold trF
  rw [List.take_succ_eq_append_getElem hk, List.find?_append, hf]
  simp [hq]
def trV (l : List Ent) (f : List Int) (m p : Int) : Int := if 0 ≤ findI l m p then (match l[(findI l m p).toNat]? with | some e => if eqL e.shown f then 1 else 2 | none => 0) else 0
theorem trV_0 {l : List Ent} {f : List Int} {m p : Int} (h : ¬ 0 ≤ findI l m p) : trV l f m p = 0 := by simp [trV, h]
theorem trV_1 {l : List Ent} {f : List Int} {m p : Int} {q : Nat} (h : findI l m p = (q : Int)) (hq : q < l.length) (h1 : eqL l[q].shown f = true) : trV l f m p = 1 := by simp [trV, h, hq, h1]
theorem trV_2 {l : List Ent} {f : List Int} {m p : Int} {q : Nat} (h : findI l m p = (q : Int)) (hq : q < l.length) (h1 : eqL l[q].shown f = false) : trV l f m p = 2 := by simp [trV, h, hq, h1]
def trM (es : List (List Ent)) (m p : Int) : List Int := es.mapIdx fun k l => trV l ((trF es m p (k + 1)).getD []) m p
theorem trM_len (es : List (List Ent)) (m p : Int) : (trM es m p).length = es.length := by simp [trM]
theorem trM_at (es : List (List Ent)) (m p : Int) (k : Nat) (h : k < es.length) (h' : k < (trM es m p).length) : (trM es m p)[k] = trV es[k] ((trF es m p (k + 1)).getD []) m p := by simp [trM]
theorem trM_take_succ {es : List (List Ent)} {m p v : Int} {k : Nat} (h : k < es.length) (hv : trV es[k] ((trF es m p (k + 1)).getD []) m p = v) : (trM es m p).take (k + 1) = (trM es m p).take k ++ [v] := by
  rw [List.take_succ_eq_append_getElem (by rw [trM_len]; exact h), trM_at es m p k h, hv]
theorem trM_tk_succ {es : List (List Ent)} {m p v : Int} {k : Nat} (h : k < es.length) (hv : trV es[k] ((trF es m p (k + 1)).getD []) m p = v) : (tk (trM es m p) k).set k v = tk (trM es m p) (k + 1) := by
  have hl : k < (trM es m p).length := by rw [trM_len]; exact h
  rw [← hv, ← trM_at es m p k h hl]; exact tk_succ _ _ hl
theorem tk_self (zs : List Int) (k : Nat) (h : k < zs.length) (h' : k < (tk zs k).length) : (tk zs k)[k] = 0 := by
  have hq : (tk zs k)[k]? = some 0 := by
    unfold tk
    have hl : (zs.take k).length = k := by simp; omega
    rw [List.getElem?_append_right (by omega), hl, Nat.sub_self, List.getElem?_replicate, if_pos (by omega)]
  rw [List.getElem?_eq_getElem h'] at hq
  exact Option.some.inj hq
theorem trM_tk_zero {es : List (List Ent)} {m p : Int} {k : Nat} (h : k < es.length) (hv : trV es[k] ((trF es m p (k + 1)).getD []) m p = 0) : tk (trM es m p) k = tk (trM es m p) (k + 1) := by
  rw [← trM_tk_succ h hv]
  apply List.ext_getElem (by simp)
  intro i h1 h2
  rw [List.getElem_set]
  by_cases e : k = i
  · subst e
    rw [if_pos rfl]
    exact tk_self _ _ (by rw [trM_len]; exact h) _
  · rw [if_neg e]
def trL (es : List (List Ent)) (m p : Int) : List Int := if paB es m p then trM es m p else []
theorem trL_no {es : List (List Ent)} {m p : Int} (h : paB es m p = false) : trL es m p = [] := by simp [trL, h]
theorem trL_yes {es : List (List Ent)} {m p : Int} (h : paB es m p = true) : trL es m p = trM es m p := by simp [trL, h]
end Go.Proofs.Yteajjbfecpffeaa
