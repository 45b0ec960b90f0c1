/-
  Plain functions for the faults of a line of towers, and their laws. No program here.
-/
import Derived.Test.YteajjbfecpffeaaIntSS
import Derived.Test.YteajjbfecpffeaaAreLogs
namespace Go.Proofs.Yteajjbfecpffeaa
set_option linter.unusedVariables false
set_option linter.unusedSimpArgs false

theorem logB_len' {es : List Ent} (h : logB es = true) : es.length ≤ 30 := by
  simp only [logB, Bool.and_eq_true, decide_eq_true_eq] at h; omega
theorem findI_cast2 {es : List Ent} {m p : Int} (h : 0 ≤ findI es m p) : ∃ q : Nat, findI es m p = (q : Int) ∧ q < es.length := by
  rcases findI_cases es m p with ⟨k, hk, e, _⟩ | ⟨e, _⟩
  · exact ⟨k, e, hk⟩
  · omega
theorem findI_neg {es : List Ent} {m p : Int} (h : ¬ 0 ≤ findI es m p) : findI es m p = -1 := by have := findI_range es m p; omega
theorem logsB_len8 {es : List (List Ent)} (h : logsB es = true) : es.length ≤ 8 := (logsB_iff.1 h).1.2

/-- the kind of the fault between an entry and the next tower, or 0 -/
def pfK (e : Ent) (b : List Ent) : Int :=
  if 0 ≤ findI b e.msg e.part then (match b[(findI b e.msg e.part).toNat]? with | some x => if eqL x.seen e.shown then (if x.time < e.time then 3 else 0) else 2 | none => 0) else 1
theorem pfK_1 {e : Ent} {b : List Ent} (h : ¬ 0 ≤ findI b e.msg e.part) : pfK e b = 1 := by simp [pfK, h]
theorem pfK_2 {e : Ent} {b : List Ent} {q : Nat} (h : findI b e.msg e.part = (q : Int)) (hq : q < b.length) (h1 : eqL b[q].seen e.shown = false) : pfK e b = 2 := by simp [pfK, h, hq, h1]
theorem pfK_3 {e : Ent} {b : List Ent} {q : Nat} (h : findI b e.msg e.part = (q : Int)) (hq : q < b.length) (h1 : eqL b[q].seen e.shown = true) (h2 : b[q].time < e.time) : pfK e b = 3 := by simp [pfK, h, hq, h1, h2]
theorem pfK_0 {e : Ent} {b : List Ent} {q : Nat} (h : findI b e.msg e.part = (q : Int)) (hq : q < b.length) (h1 : eqL b[q].seen e.shown = true) (h2 : ¬ b[q].time < e.time) : pfK e b = 0 := by simp [pfK, h, hq, h1, h2]
theorem pfK_bd (e : Ent) (b : List Ent) : 0 ≤ pfK e b ∧ pfK e b ≤ 3 := by
  unfold pfK; repeat' split
  all_goals omega
def pfA (a b : List Ent) (k : Nat) : List (List Int) := ((a.take k).filter fun e => decide (0 < pfK e b)).map fun e => [e.msg, e.part, pfK e b]
theorem pfA_zero (a b : List Ent) : pfA a b 0 = [] := by simp [pfA]
theorem pfA_yes {a b : List Ent} {k : Nat} {v : Int} (h : k < a.length) (h1 : pfK a[k] b = v) (h2 : 0 < v) : pfA a b (k + 1) = pfA a b k ++ [[a[k].msg, a[k].part, v]] := by
  subst h1; unfold pfA; rw [List.take_succ_eq_append_getElem h, List.filter_append, List.map_append]; simp [h2]
theorem pfA_no {a b : List Ent} {k : Nat} (h : k < a.length) (h1 : pfK a[k] b = 0) : pfA a b (k + 1) = pfA a b k := by
  unfold pfA; rw [List.take_succ_eq_append_getElem h, List.filter_append, List.map_append]; simp [h1]
theorem pfA_len (a b : List Ent) (k : Nat) : (pfA a b k).length ≤ k := by
  unfold pfA; rw [List.length_map]; exact Nat.le_trans (List.length_filter_le _ _) (by simp; omega)
theorem pfA_mem {a b : List Ent} {k : Nat} {x : List Int} (h : x ∈ pfA a b k) : x.length = 3 := by
  unfold pfA at h; obtain ⟨e, _, rfl⟩ := List.mem_map.1 h; rfl
def pfB (a b : List Ent) (k : Nat) : List (List Int) := ((b.take k).filter fun e => decide (¬ 0 ≤ findI a e.msg e.part)).map fun e => [e.msg, e.part, 4]
theorem pfB_zero (a b : List Ent) : pfB a b 0 = [] := by simp [pfB]
theorem pfB_yes {a b : List Ent} {k : Nat} (h : k < b.length) (h1 : ¬ 0 ≤ findI a b[k].msg b[k].part) : pfB a b (k + 1) = pfB a b k ++ [[b[k].msg, b[k].part, 4]] := by
  unfold pfB; rw [List.take_succ_eq_append_getElem h, List.filter_append, List.map_append]; simp [show findI a b[k].msg b[k].part < 0 by omega]
theorem pfB_no {a b : List Ent} {k : Nat} (h : k < b.length) (h1 : 0 ≤ findI a b[k].msg b[k].part) : pfB a b (k + 1) = pfB a b k := by
  unfold pfB; rw [List.take_succ_eq_append_getElem h, List.filter_append, List.map_append]; simp [show ¬ findI a b[k].msg b[k].part < 0 by omega]; (try omega)
theorem pfB_len (a b : List Ent) (k : Nat) : (pfB a b k).length ≤ k := by
  unfold pfB; rw [List.length_map]; exact Nat.le_trans (List.length_filter_le _ _) (by simp; omega)
theorem pfB_mem {a b : List Ent} {k : Nat} {x : List Int} (h : x ∈ pfB a b k) : x.length = 3 := by
  unfold pfB at h; obtain ⟨e, _, rfl⟩ := List.mem_map.1 h; rfl
def pfAB (a b : List Ent) (k : Nat) : List (List Int) := pfA a b a.length ++ pfB a b k
theorem pfAB_zero (a b : List Ent) : pfAB a b 0 = pfA a b a.length := by simp [pfAB, pfB_zero]
theorem pfAB_yes {a b : List Ent} {k : Nat} (h : k < b.length) (h1 : ¬ 0 ≤ findI a b[k].msg b[k].part) : pfAB a b (k + 1) = pfAB a b k ++ [[b[k].msg, b[k].part, 4]] := by
  unfold pfAB; rw [pfB_yes h h1, List.append_assoc]
theorem pfAB_no {a b : List Ent} {k : Nat} (h : k < b.length) (h1 : 0 ≤ findI a b[k].msg b[k].part) : pfAB a b (k + 1) = pfAB a b k := by unfold pfAB; rw [pfB_no h h1]
theorem pfAB_len (a b : List Ent) (k : Nat) : (pfAB a b k).length ≤ a.length + k := by
  have := pfA_len a b a.length; have := pfB_len a b k; simp [pfAB]; omega
theorem pfAB_mem {a b : List Ent} {k : Nat} {x : List Int} (h : x ∈ pfAB a b k) : x.length = 3 := by
  rcases List.mem_append.1 h with h | h
  · exact pfA_mem h
  · exact pfB_mem h
def pfL (a b : List Ent) : List (List Int) := pfAB a b b.length
theorem pfL_len (a b : List Ent) : (pfL a b).length ≤ a.length + b.length := pfAB_len a b _
theorem pfL_mem {a b : List Ent} {x : List Int} (h : x ∈ pfL a b) : x.length = 3 := pfAB_mem h
theorem pfL_at {a b : List Ent} {k : Nat} (h : k < (pfL a b).length) : (pfL a b)[k].length = 3 := pfL_mem (List.getElem_mem h)
theorem pfL_sz (a b : List Ent) : iszL (pfL a b) ≤ (a.length + b.length) * (3 + 1) := isz_all (pfL_len a b) fun x hx => by rw [pfL_mem hx]; omega
def ppB (a b : List Ent) : Bool := logB a && logB b
def ppL (a b : List Ent) : List (List Int) := if ppB a b then pfL a b else []
theorem ppL_no {a b : List Ent} (h : ppB a b = false) : ppL a b = [] := by simp [ppL, h]
theorem ppL_yes {a b : List Ent} (h : ppB a b = true) : ppL a b = pfL a b := by simp [ppL, h]

/-- what tower i itself changed -/
def lfE (l : List Ent) (i : Int) (k : Nat) : List (List Int) := ((l.take k).filter fun e => !eqL e.seen e.shown).map fun e => [e.msg, e.part, 5, i]
theorem lfE_zero (l : List Ent) (i : Int) : lfE l i 0 = [] := by simp [lfE]
theorem lfE_yes {l : List Ent} {i : Int} {k : Nat} (h : k < l.length) (h1 : eqL l[k].seen l[k].shown = false) : lfE l i (k + 1) = lfE l i k ++ [[l[k].msg, l[k].part, 5, i]] := by
  unfold lfE; rw [List.take_succ_eq_append_getElem h, List.filter_append, List.map_append]; simp [h1]
theorem lfE_no {l : List Ent} {i : Int} {k : Nat} (h : k < l.length) (h1 : eqL l[k].seen l[k].shown = true) : lfE l i (k + 1) = lfE l i k := by
  unfold lfE; rw [List.take_succ_eq_append_getElem h, List.filter_append, List.map_append]; simp [h1]
theorem lfE_len (l : List Ent) (i : Int) (k : Nat) : (lfE l i k).length ≤ k := by
  unfold lfE; rw [List.length_map]; exact Nat.le_trans (List.length_filter_le _ _) (by simp; omega)
def lfP (fs : List (List Int)) (i : Int) (k : Nat) : List (List Int) := (fs.take k).map fun x => x ++ [i]
theorem lfP_zero (fs : List (List Int)) (i : Int) : lfP fs i 0 = [] := by simp [lfP]
theorem lfP_succ {fs : List (List Int)} {i : Int} {k : Nat} (h : k < fs.length) : lfP fs i (k + 1) = lfP fs i k ++ [fs[k] ++ [i]] := by
  unfold lfP; rw [List.take_succ_eq_append_getElem h, List.map_append]; rfl
theorem lfP_len (fs : List (List Int)) (i : Int) (k : Nat) (h : k ≤ fs.length) : (lfP fs i k).length = k := by simp [lfP]; omega
/-- the faults that tower i tells -/
def lfRow (es : List (List Ent)) (i : Nat) : List (List Int) :=
  match es[i]? with
  | some l => lfE l i l.length ++ (match es[i + 1]? with | some l' => lfP (pfL l l') i (pfL l l').length | none => [])
  | none => []
theorem lfRow_more {es : List (List Ent)} {i : Nat} (h : i + 1 < es.length) : lfRow es i = lfE es[i] i es[i].length ++ lfP (pfL es[i] es[i + 1]) i (pfL es[i] es[i + 1]).length := by
  unfold lfRow; rw [List.getElem?_eq_getElem (show i < es.length by omega), List.getElem?_eq_getElem h]
theorem lfRow_last {es : List (List Ent)} {i : Nat} (h : i < es.length) (h2 : ¬ i + 1 < es.length) : lfRow es i = lfE es[i] i es[i].length := by
  unfold lfRow; rw [List.getElem?_eq_getElem h, List.getElem?_eq_none (by omega)]; simp
def lfTo (es : List (List Ent)) (k : Nat) : List (List Int) := ((List.range k).map (lfRow es)).flatten
theorem lfTo_zero (es : List (List Ent)) : lfTo es 0 = [] := rfl
theorem lfTo_succ (es : List (List Ent)) (k : Nat) : lfTo es (k + 1) = lfTo es k ++ lfRow es k := by
  unfold lfTo; rw [List.range_succ, List.map_append, List.flatten_append]; simp
def lfL (es : List (List Ent)) : List (List Int) := lfTo es es.length
/-- each fault is a list of four whose last one is the tower -/
theorem lfRow_mem {es : List (List Ent)} {i : Nat} {x : List Int} (h : x ∈ lfRow es i) : x.length = 4 ∧ x[3]? = some (i : Int) ∧ i < es.length := by
  unfold lfRow at h
  cases h1 : es[i]? with
  | none => rw [h1] at h; simp at h
  | some l =>
    have hi : i < es.length := (List.getElem?_eq_some_iff.1 h1).1
    rw [h1] at h
    rcases List.mem_append.1 h with h | h
    · unfold lfE at h
      obtain ⟨e, _, rfl⟩ := List.mem_map.1 h
      exact ⟨rfl, rfl, hi⟩
    · cases h2 : es[i + 1]? with
      | none => rw [h2] at h; simp at h
      | some l' =>
        rw [h2] at h
        unfold lfP at h
        obtain ⟨y, hy, rfl⟩ := List.mem_map.1 h
        have hl := pfL_mem (List.mem_of_mem_take hy)
        refine ⟨by simp [hl], ?_, hi⟩
        rw [List.getElem?_append_right (by omega), hl]
        rfl
theorem lfTo_mem {es : List (List Ent)} {k : Nat} {x : List Int} (h : x ∈ lfTo es k) : x.length = 4 ∧ ∃ i : Nat, x[3]? = some (i : Int) ∧ i < es.length := by
  unfold lfTo at h
  obtain ⟨r, hr, hx⟩ := List.mem_flatten.1 h
  obtain ⟨i, _, rfl⟩ := List.mem_map.1 hr
  have := lfRow_mem hx
  exact ⟨this.1, i, this.2⟩
theorem lfL_at {es : List (List Ent)} {k : Nat} (h : k < (lfL es).length) : ∃ (m p q : Int) (i : Nat), (lfL es)[k] = [m, p, q, (i : Int)] ∧ i < es.length := by
  have hm := lfTo_mem (List.getElem_mem h)
  generalize hx : (lfL es)[k] = x at *
  obtain ⟨h4, i, h3, hi⟩ := hm
  match x, h4 with
  | [m, p, q, j], _ =>
    simp at h3
    exact ⟨m, p, q, i, by rw [h3], hi⟩
theorem lfRow_len {es : List (List Ent)} {i : Nat} (h : logsB es = true) : (lfRow es i).length ≤ 90 := by
  have hall := (logsB_iff.1 h).2
  by_cases hi : i < es.length
  · have h1 := logB_len' (hall i hi)
    have h2 := lfE_len es[i] i es[i].length
    by_cases hi2 : i + 1 < es.length
    · have h3 := logB_len' (hall (i + 1) hi2)
      have h4 := pfL_len es[i] es[i + 1]
      rw [lfRow_more hi2, List.length_append, lfP_len _ _ _ (Nat.le_refl _)]
      omega
    · rw [lfRow_last hi hi2]; omega
  · unfold lfRow; rw [List.getElem?_eq_none (by omega)]; simp
theorem lfTo_len {es : List (List Ent)} (h : logsB es = true) (k : Nat) : (lfTo es k).length ≤ 90 * k := by
  induction k with
  | zero => simp [lfTo_zero]
  | succ k ih =>
    have := lfRow_len (i := k) h
    rw [lfTo_succ, List.length_append]; omega
theorem lfL_len {es : List (List Ent)} (h : logsB es = true) : (lfL es).length ≤ 720 := by
  have := lfTo_len h es.length
  have := logsB_len8 h
  unfold lfL; omega
theorem lfL_sz {es : List (List Ent)} (h : logsB es = true) : iszL (lfL es) ≤ 3600 := by
  have := isz_all (n := 720) (m := 4) (lfL_len h) fun x hx => by rw [(lfTo_mem hx).1]; omega
  omega
def llL (es : List (List Ent)) : List (List Int) := if logsB es then lfL es else []
theorem llL_no {es : List (List Ent)} (h : logsB es = false) : llL es = [] := by simp [llL, h]
theorem llL_yes {es : List (List Ent)} (h : logsB es = true) : llL es = lfL es := by simp [llL, h]
/-- no faults -/
def itB (es : List (List Ent)) : Bool := logsB es && decide ((lfL es).length = 0)

/-- how many of the first k faults each of n towers has -/
def fcTo (fs : List (List Int)) (n k : Nat) : List Int := (List.range n).map fun i : Nat => (((fs.take k).filter fun x => decide (x[3]? = some (i : Int))).length : Int)
theorem fcTo_len (fs : List (List Int)) (n k : Nat) : (fcTo fs n k).length = n := by simp [fcTo]
theorem fcTo_zero (fs : List (List Int)) (n : Nat) : fcTo fs n 0 = List.replicate n 0 := by
  apply List.ext_getElem (by simp [fcTo])
  intro i h1 h2
  simp [fcTo]
theorem fcTo_at (fs : List (List Int)) (n k i : Nat) (h : i < (fcTo fs n k).length) : (fcTo fs n k)[i] = (((fs.take k).filter fun x => decide (x[3]? = some (i : Int))).length : Int) := by simp [fcTo]
theorem fcTo_bd (fs : List (List Int)) (n k i : Nat) (h : i < (fcTo fs n k).length) : 0 ≤ (fcTo fs n k)[i] ∧ (fcTo fs n k)[i] ≤ k := by
  rw [fcTo_at]
  have := List.length_filter_le (fun x : List Int => decide (x[3]? = some (i : Int))) (fs.take k)
  have h2 : (fs.take k).length ≤ k := by simp; omega
  omega
theorem fcTo_succ {fs : List (List Int)} {n k i : Nat} (h : k < fs.length) (hi : i < n) (h3 : fs[k][3]? = some (i : Int)) (hc : i < (fcTo fs n k).length) : (fcTo fs n k).set i ((fcTo fs n k)[i] + 1) = fcTo fs n (k + 1) := by
  apply List.ext_getElem (by simp [fcTo])
  intro j h1 h2
  rw [List.getElem_set]
  have hs : (fs.take (k + 1)) = fs.take k ++ [fs[k]] := List.take_succ_eq_append_getElem h
  by_cases e : i = j
  · subst e
    rw [if_pos rfl, fcTo_at, fcTo_at, hs, List.filter_append, List.length_append]
    simp [h3]
  · rw [if_neg e, fcTo_at, fcTo_at, hs, List.filter_append, List.length_append]
    have : ¬ (fs[k][3]? = some (j : Int)) := by rw [h3]; intro h; injection h with h; omega
    simp [this]
def fcL (es : List (List Ent)) : List Int := if logsB es then fcTo (lfL es) es.length (lfL es).length else []
theorem fcL_no {es : List (List Ent)} (h : logsB es = false) : fcL es = [] := by simp [fcL, h]
theorem fcL_yes {es : List (List Ent)} (h : logsB es = true) : fcL es = fcTo (lfL es) es.length (lfL es).length := by simp [fcL, h]
end Go.Proofs.Yteajjbfecpffeaa
