/-
  Contracts and plain laws that the walk uses, several texts in one. The conditions are named ahead of each.
-/
import Derived.Test.YtjhbffndiaggmaaDoorB16
import Derived.Test.YtjhbffndiaggmaaDoorB15
import Derived.Test.YtjhbffndiaggmaaDoorZLawKit
import Derived.Test.YtjhbffndiaggmaaDoorB21
import Derived.Test.YtjhbffndiaggmaaDoorB19
import Derived.Deep.RegionHeld3

/-
  Contracts of the statements' own helpers on slices of slices of integers: equality and marks. The conditions are bounds on lengths.
-/
namespace Go.Proofs.YtjhbffndiaggmaaDoor
open Go.RowKit Go.ChangeShapes Go.WideShapes
set_option linter.unusedVariables false
set_option linter.unusedSimpArgs false

def isum (es : List (List Int)) (j : Nat) : Nat := ((es.take j).map List.length).sum
theorem isum_zero (es : List (List Int)) : isum es 0 = 0 := by simp [isum]
theorem isum_succ (es : List (List Int)) (k : Nat) (h : k < es.length) : isum es (k + 1) = isum es k + es[k].length := by
  unfold isum; rw [List.take_succ_eq_append_getElem h, List.map_append, List.sum_append]; simp
theorem isum_le (es : List (List Int)) (k : Nat) : isum es k ≤ isum es es.length := by
  unfold isum
  rw [List.take_length]
  conv => rhs; rw [← List.take_append_drop k es]
  rw [List.map_append, List.sum_append]
  omega
def iszL (es : List (List Int)) : Nat := es.length + isum es es.length
theorem isz_len (es : List (List Int)) : es.length ≤ iszL es := by unfold iszL; omega
theorem isz_at (es : List (List Int)) (k : Nat) (h : k < es.length) : es[k].length ≤ iszL es := by
  have := isum_succ es k h; have := isum_le es (k + 1); unfold iszL; omega
theorem isz_nil : iszL [] = 0 := by simp [iszL, isum]
theorem isz_all {es : List (List Int)} {n m : Nat} (h : es.length ≤ n) (h2 : ∀ x ∈ es, x.length ≤ m) : iszL es ≤ n * (m + 1) := by
  have : isum es es.length ≤ es.length * m := by
    unfold isum
    rw [List.take_length]
    clear h
    induction es with
    | nil => simp
    | cons a es ih =>
      have h1 := h2 a (by simp)
      have h3 := ih fun x hx => h2 x (by simp [hx])
      simp only [List.map_cons, List.sum_cons, List.length_cons, Nat.add_mul, Nat.one_mul]
      omega
  have h4 : es.length * m ≤ n * m := Nat.mul_le_mul_right _ h
  unfold iszL
  rw [Nat.mul_add, Nat.mul_one]
  omega
/-- the marks -/
def mkITo (es : List (List Int)) (k0 : Int) (j : Nat) : List (List Int) := es.mapIdx fun i z => if i < j then fill (k0 + isum es i) z.length else z
theorem mkITo_len (es : List (List Int)) (k0 : Int) (j : Nat) : (mkITo es k0 j).length = es.length := by simp [mkITo]
theorem mkITo_zero (es : List (List Int)) (k0 : Int) : mkITo es k0 0 = es := by
  apply List.ext_getElem (by simp [mkITo])
  intro i h1 h2
  simp [mkITo]
theorem mkITo_get (es : List (List Int)) (k0 : Int) (k : Nat) (h : k < es.length) (h' : k < (mkITo es k0 k).length) : (mkITo es k0 k)[k] = es[k] := by simp [mkITo]
theorem mkITo_succ (es : List (List Int)) (k0 : Int) (k : Nat) (h : k < es.length) : (mkITo es k0 k).set k (fill (k0 + isum es k) es[k].length) = mkITo es k0 (k + 1) := by
  apply List.ext_getElem (by simp [mkITo])
  intro i h1 h2
  rw [List.getElem_set]
  by_cases e : k = i
  · subst e
    simp [mkITo]
  · rw [if_neg e]
    simp only [mkITo, List.getElem_mapIdx]
    by_cases e2 : i < k
    · rw [if_pos e2, if_pos (by omega)]
    · rw [if_neg e2, if_neg (by omega)]
def mkI (es : List (List Int)) (k0 : Int) : List (List Int) := mkITo es k0 es.length
theorem mkI_len (es : List (List Int)) (k0 : Int) : (mkI es k0).length = es.length := mkITo_len _ _ _
theorem mkI_at (es : List (List Int)) (k0 : Int) (k : Nat) (h : k < es.length) (h' : k < (mkI es k0).length) : (mkI es k0)[k] = fill (k0 + isum es k) es[k].length := by simp [mkI, mkITo, h]

/-- the k-th of the slices, opened for marks -/
theorem OwnI.open_ {w : World} {lo hi n c k : Nat} {A : Option Addr} {es : List (List Int)} (h : OwnI w lo hi (.slice A n c) es) (hk : k < es.length) :
    ∃ g A1 c1 l r, A = some ⟨g, 0, none⟩ ∧ lo ≤ g ∧ g < hi ∧ w.cell? ⟨g, k, none⟩ = some (.slice A1 es[k].length c1) ∧ Own w l r (.slice A1 es[k].length c1) es[k] ∧ (∀ b, l ≤ b → b < r → b ≠ g ∧ lo ≤ b ∧ b < hi) ∧
      ∀ (w' : World) (s' : List Int), s'.length = es[k].length → Fr l r w w' → Own w' l r (.slice A1 es[k].length c1) s' → OwnI w' lo hi (.slice A n c) (es.set k s') := by
  rcases h with ⟨_, rfl⟩ | ⟨g, cap, cur, U, e0, a1, a2, hg, c1, c2, c3, hj, hd⟩
  · exact absurd hk (by simp)
  · injection e0 with e1 e2 e3
    subst e1 e2 e3
    obtain ⟨x0, hu⟩ := hj k hk
    obtain ⟨A1, d1, eu, _, _⟩ := hu.rd
    have nu := hu.ne_sl hg
    obtain ⟨l, r, hu1, tu⟩ := hu.tight
    have hfr : ∀ b, l ≤ b → b < r → b ≠ g ∧ lo ≤ b ∧ b < hi := fun b h1 h2 => by
      obtain ⟨o1, o2, o3⟩ := tu b h1 h2
      exact ⟨fun e => nu (by rw [o1, e]), o2, o3⟩
    refine ⟨g, A1, d1, l, r, rfl, a1, a2, (cell_of_row w g k cur _ _ hg).trans (x0.trans (by rw [eu])), eu ▸ hu1, hfr, ?_⟩
    intro w' s' hl hf hs'
    rw [← eu] at hs'
    have hgw : w'.heap[g]? = w.heap[g]? := hf.block g (Array.getElem?_eq_some_iff.1 hg).1 (by
      by_cases hb : l ≤ g ∧ g < r
      · exact absurd rfl (hfr g hb.1 hb.2).1
      · omega)
    refine .inr ⟨g, c, cur, U, by rw [List.length_set], a1, a2, hgw.trans hg, by rw [List.length_set]; exact c1, c2, c3, ?_, by rw [List.length_set]; exact hd⟩
    intro j hjl
    rw [List.length_set] at hjl
    by_cases hjk : j = k
    · subst hjk
      simp only [List.getElem_set_self]
      exact ⟨x0, hs'.wide fun b h1 h2 => (tu b h1 h2).2⟩
    · simp only [List.getElem_set_ne (Ne.symm hjk)]
      obtain ⟨y0, p⟩ := hj j hjl
      refine ⟨y0, p.keep fun b hb _ _ hlt => hf.block b hlt ?_⟩
      by_cases hb2 : l ≤ b ∧ b < r
      · obtain ⟨o1, _⟩ := tu b hb2.1 hb2.2
        rcases hd j k hjl hk hjk with d | d
        · rw [hb] at d; cases d
        · exact absurd (by rw [hb, o1]) d
      · omega



end Go.Proofs.YtjhbffndiaggmaaDoor

/-
  Plain functions for the faults of a line of towers, and their laws. No program here.
-/
namespace Go.Proofs.YtjhbffndiaggmaaDoor
set_option linter.unusedVariables false
set_option linter.unusedSimpArgs false

theorem logB_len' {es : List Ent} (h : logB es = true) : es.length ≤ 30 := by
  simp only [logB, Bool.and_eq_true, decide_eq_true_eq] at h; omega
theorem findI_cast2 {es : List Ent} {m p : Int} (h : 0 ≤ findI es m p) : ∃ q : Nat, findI es m p = (q : Int) ∧ q < es.length := by
  rcases findI_cases es m p with ⟨k, hk, e, _⟩ | ⟨e, _⟩
  · exact ⟨k, e, hk⟩
  · omega
theorem findI_neg {es : List Ent} {m p : Int} (h : ¬ 0 ≤ findI es m p) : findI es m p = -1 := by have := findI_range es m p; omega
theorem logsB_len8 {es : List (List Ent)} (h : logsB es = true) : es.length ≤ 8 := (logsB_iff.1 h).1.2

/-- the kind of the fault between an entry and the next tower, or 0 -/
def pfK (e : Ent) (b : List Ent) : Int :=
  if 0 ≤ findI b e.msg e.part then (match b[(findI b e.msg e.part).toNat]? with | some x => if eqL x.seen e.shown then (if x.time < e.time then 3 else 0) else 2 | none => 0) else 1
theorem pfK_1 {e : Ent} {b : List Ent} (h : ¬ 0 ≤ findI b e.msg e.part) : pfK e b = 1 := by simp [pfK, h]
theorem pfK_2 {e : Ent} {b : List Ent} {q : Nat} (h : findI b e.msg e.part = (q : Int)) (hq : q < b.length) (h1 : eqL b[q].seen e.shown = false) : pfK e b = 2 := by simp [pfK, h, hq, h1]
theorem pfK_3 {e : Ent} {b : List Ent} {q : Nat} (h : findI b e.msg e.part = (q : Int)) (hq : q < b.length) (h1 : eqL b[q].seen e.shown = true) (h2 : b[q].time < e.time) : pfK e b = 3 := by simp [pfK, h, hq, h1, h2]
theorem pfK_0 {e : Ent} {b : List Ent} {q : Nat} (h : findI b e.msg e.part = (q : Int)) (hq : q < b.length) (h1 : eqL b[q].seen e.shown = true) (h2 : ¬ b[q].time < e.time) : pfK e b = 0 := by simp [pfK, h, hq, h1, h2]
theorem pfK_bd (e : Ent) (b : List Ent) : 0 ≤ pfK e b ∧ pfK e b ≤ 3 := by
  unfold pfK; repeat' split
  all_goals omega
def pfA (a b : List Ent) (k : Nat) : List (List Int) := ((a.take k).filter fun e => decide (0 < pfK e b)).map fun e => [e.msg, e.part, pfK e b]
theorem pfA_zero (a b : List Ent) : pfA a b 0 = [] := by simp [pfA]
theorem pfA_yes {a b : List Ent} {k : Nat} {v : Int} (h : k < a.length) (h1 : pfK a[k] b = v) (h2 : 0 < v) : pfA a b (k + 1) = pfA a b k ++ [[a[k].msg, a[k].part, v]] := by
  subst h1; unfold pfA; rw [List.take_succ_eq_append_getElem h, List.filter_append, List.map_append]; simp [h2]
theorem pfA_no {a b : List Ent} {k : Nat} (h : k < a.length) (h1 : pfK a[k] b = 0) : pfA a b (k + 1) = pfA a b k := by
  unfold pfA; rw [List.take_succ_eq_append_getElem h, List.filter_append, List.map_append]; simp [h1]
theorem pfA_len (a b : List Ent) (k : Nat) : (pfA a b k).length ≤ k := by
  unfold pfA; rw [List.length_map]; exact Nat.le_trans (List.length_filter_le _ _) (by simp; omega)
theorem pfA_mem {a b : List Ent} {k : Nat} {x : List Int} (h : x ∈ pfA a b k) : x.length = 3 := by
  unfold pfA at h; obtain ⟨e, _, rfl⟩ := List.mem_map.1 h; rfl
def pfB (a b : List Ent) (k : Nat) : List (List Int) := ((b.take k).filter fun e => decide (¬ 0 ≤ findI a e.msg e.part)).map fun e => [e.msg, e.part, 4]
theorem pfB_zero (a b : List Ent) : pfB a b 0 = [] := by simp [pfB]
theorem pfB_yes {a b : List Ent} {k : Nat} (h : k < b.length) (h1 : ¬ 0 ≤ findI a b[k].msg b[k].part) : pfB a b (k + 1) = pfB a b k ++ [[b[k].msg, b[k].part, 4]] := by
  unfold pfB; rw [List.take_succ_eq_append_getElem h, List.filter_append, List.map_append]; simp [show findI a b[k].msg b[k].part < 0 by omega]
theorem pfB_no {a b : List Ent} {k : Nat} (h : k < b.length) (h1 : 0 ≤ findI a b[k].msg b[k].part) : pfB a b (k + 1) = pfB a b k := by
  unfold pfB; rw [List.take_succ_eq_append_getElem h, List.filter_append, List.map_append]; simp [show ¬ findI a b[k].msg b[k].part < 0 by omega]; (try omega)
theorem pfB_len (a b : List Ent) (k : Nat) : (pfB a b k).length ≤ k := by
  unfold pfB; rw [List.length_map]; exact Nat.le_trans (List.length_filter_le _ _) (by simp; omega)
theorem pfB_mem {a b : List Ent} {k : Nat} {x : List Int} (h : x ∈ pfB a b k) : x.length = 3 := by
  unfold pfB at h; obtain ⟨e, _, rfl⟩ := List.mem_map.1 h; rfl
def pfAB (a b : List Ent) (k : Nat) : List (List Int) := pfA a b a.length ++ pfB a b k
theorem pfAB_zero (a b : List Ent) : pfAB a b 0 = pfA a b a.length := by simp [pfAB, pfB_zero]
theorem pfAB_yes {a b : List Ent} {k : Nat} (h : k < b.length) (h1 : ¬ 0 ≤ findI a b[k].msg b[k].part) : pfAB a b (k + 1) = pfAB a b k ++ [[b[k].msg, b[k].part, 4]] := by
  unfold pfAB; rw [pfB_yes h h1, List.append_assoc]
theorem pfAB_no {a b : List Ent} {k : Nat} (h : k < b.length) (h1 : 0 ≤ findI a b[k].msg b[k].part) : pfAB a b (k + 1) = pfAB a b k := by unfold pfAB; rw [pfB_no h h1]
theorem pfAB_len (a b : List Ent) (k : Nat) : (pfAB a b k).length ≤ a.length + k := by
  have := pfA_len a b a.length; have := pfB_len a b k; simp [pfAB]; omega
theorem pfAB_mem {a b : List Ent} {k : Nat} {x : List Int} (h : x ∈ pfAB a b k) : x.length = 3 := by
  rcases List.mem_append.1 h with h | h
  · exact pfA_mem h
  · exact pfB_mem h
def pfL (a b : List Ent) : List (List Int) := pfAB a b b.length
theorem pfL_len (a b : List Ent) : (pfL a b).length ≤ a.length + b.length := pfAB_len a b _
theorem pfL_mem {a b : List Ent} {x : List Int} (h : x ∈ pfL a b) : x.length = 3 := pfAB_mem h
theorem pfL_at {a b : List Ent} {k : Nat} (h : k < (pfL a b).length) : (pfL a b)[k].length = 3 := pfL_mem (List.getElem_mem h)
theorem pfL_sz (a b : List Ent) : iszL (pfL a b) ≤ (a.length + b.length) * (3 + 1) := isz_all (pfL_len a b) fun x hx => by rw [pfL_mem hx]; omega
def ppB (a b : List Ent) : Bool := logB a && logB b
def ppL (a b : List Ent) : List (List Int) := if ppB a b then pfL a b else []
theorem ppL_no {a b : List Ent} (h : ppB a b = false) : ppL a b = [] := by simp [ppL, h]
theorem ppL_yes {a b : List Ent} (h : ppB a b = true) : ppL a b = pfL a b := by simp [ppL, h]

/-- what tower i itself changed -/
def lfE (l : List Ent) (i : Int) (k : Nat) : List (List Int) := ((l.take k).filter fun e => !eqL e.seen e.shown).map fun e => [e.msg, e.part, 5, i]
theorem lfE_zero (l : List Ent) (i : Int) : lfE l i 0 = [] := by simp [lfE]
theorem lfE_yes {l : List Ent} {i : Int} {k : Nat} (h : k < l.length) (h1 : eqL l[k].seen l[k].shown = false) : lfE l i (k + 1) = lfE l i k ++ [[l[k].msg, l[k].part, 5, i]] := by
  unfold lfE; rw [List.take_succ_eq_append_getElem h, List.filter_append, List.map_append]; simp [h1]
theorem lfE_no {l : List Ent} {i : Int} {k : Nat} (h : k < l.length) (h1 : eqL l[k].seen l[k].shown = true) : lfE l i (k + 1) = lfE l i k := by
  unfold lfE; rw [List.take_succ_eq_append_getElem h, List.filter_append, List.map_append]; simp [h1]
theorem lfE_len (l : List Ent) (i : Int) (k : Nat) : (lfE l i k).length ≤ k := by
  unfold lfE; rw [List.length_map]; exact Nat.le_trans (List.length_filter_le _ _) (by simp; omega)
def lfP (fs : List (List Int)) (i : Int) (k : Nat) : List (List Int) := (fs.take k).map fun x => x ++ [i]
theorem lfP_zero (fs : List (List Int)) (i : Int) : lfP fs i 0 = [] := by simp [lfP]
theorem lfP_succ {fs : List (List Int)} {i : Int} {k : Nat} (h : k < fs.length) : lfP fs i (k + 1) = lfP fs i k ++ [fs[k] ++ [i]] := by
  unfold lfP; rw [List.take_succ_eq_append_getElem h, List.map_append]; rfl
theorem lfP_len (fs : List (List Int)) (i : Int) (k : Nat) (h : k ≤ fs.length) : (lfP fs i k).length = k := by simp [lfP]; omega
/-- the faults that tower i tells -/
def lfRow (es : List (List Ent)) (i : Nat) : List (List Int) :=
  match es[i]? with
  | some l => lfE l i l.length ++ (match es[i + 1]? with | some l' => lfP (pfL l l') i (pfL l l').length | none => [])
  | none => []
theorem lfRow_more {es : List (List Ent)} {i : Nat} (h : i + 1 < es.length) : lfRow es i = lfE es[i] i es[i].length ++ lfP (pfL es[i] es[i + 1]) i (pfL es[i] es[i + 1]).length := by
  unfold lfRow; rw [List.getElem?_eq_getElem (show i < es.length by omega), List.getElem?_eq_getElem h]
theorem lfRow_last {es : List (List Ent)} {i : Nat} (h : i < es.length) (h2 : ¬ i + 1 < es.length) : lfRow es i = lfE es[i] i es[i].length := by
  unfold lfRow; rw [List.getElem?_eq_getElem h, List.getElem?_eq_none (by omega)]; simp
def lfTo (es : List (List Ent)) (k : Nat) : List (List Int) := ((List.range k).map (lfRow es)).flatten
theorem lfTo_zero (es : List (List Ent)) : lfTo es 0 = [] := rfl
theorem lfTo_succ (es : List (List Ent)) (k : Nat) : lfTo es (k + 1) = lfTo es k ++ lfRow es k := by
  unfold lfTo; rw [List.range_succ, List.map_append, List.flatten_append]; simp
def lfL (es : List (List Ent)) : List (List Int) := lfTo es es.length
/-- each fault is a list of four whose last one is the tower -/
theorem lfRow_mem {es : List (List Ent)} {i : Nat} {x : List Int} (h : x ∈ lfRow es i) : x.length = 4 ∧ x[3]? = some (i : Int) ∧ i < es.length := by
  unfold lfRow at h
  cases h1 : es[i]? with
  | none => rw [h1] at h; simp at h
  | some l =>
    have hi : i < es.length := (List.getElem?_eq_some_iff.1 h1).1
    rw [h1] at h
    rcases List.mem_append.1 h with h | h
    · unfold lfE at h
      obtain ⟨e, _, rfl⟩ := List.mem_map.1 h
      exact ⟨rfl, rfl, hi⟩
    · cases h2 : es[i + 1]? with
      | none => rw [h2] at h; simp at h
      | some l' =>
        rw [h2] at h
        unfold lfP at h
        obtain ⟨y, hy, rfl⟩ := List.mem_map.1 h
        have hl := pfL_mem (List.mem_of_mem_take hy)
        refine ⟨by simp [hl], ?_, hi⟩
        rw [List.getElem?_append_right (by omega), hl]
        rfl
theorem lfTo_mem {es : List (List Ent)} {k : Nat} {x : List Int} (h : x ∈ lfTo es k) : x.length = 4 ∧ ∃ i : Nat, x[3]? = some (i : Int) ∧ i < es.length := by
  unfold lfTo at h
  obtain ⟨r, hr, hx⟩ := List.mem_flatten.1 h
  obtain ⟨i, _, rfl⟩ := List.mem_map.1 hr
  have := lfRow_mem hx
  exact ⟨this.1, i, this.2⟩
theorem lfL_at {es : List (List Ent)} {k : Nat} (h : k < (lfL es).length) : ∃ (m p q : Int) (i : Nat), (lfL es)[k] = [m, p, q, (i : Int)] ∧ i < es.length := by
  have hm := lfTo_mem (List.getElem_mem h)
  generalize hx : (lfL es)[k] = x at *
  obtain ⟨h4, i, h3, hi⟩ := hm
  match x, h4 with
  | [m, p, q, j], _ =>
    simp at h3
    exact ⟨m, p, q, i, by rw [h3], hi⟩
theorem lfRow_len {es : List (List Ent)} {i : Nat} (h : logsB es = true) : (lfRow es i).length ≤ 90 := by
  have hall := (logsB_iff.1 h).2
  by_cases hi : i < es.length
  · have h1 := logB_len' (hall i hi)
    have h2 := lfE_len es[i] i es[i].length
    by_cases hi2 : i + 1 < es.length
    · have h3 := logB_len' (hall (i + 1) hi2)
      have h4 := pfL_len es[i] es[i + 1]
      rw [lfRow_more hi2, List.length_append, lfP_len _ _ _ (Nat.le_refl _)]
      omega
    · rw [lfRow_last hi hi2]; omega
  · unfold lfRow; rw [List.getElem?_eq_none (by omega)]; simp
theorem lfTo_len {es : List (List Ent)} (h : logsB es = true) (k : Nat) : (lfTo es k).length ≤ 90 * k := by
  induction k with
  | zero => simp [lfTo_zero]
  | succ k ih =>
    have := lfRow_len (i := k) h
    rw [lfTo_succ, List.length_append]; omega
theorem lfL_len {es : List (List Ent)} (h : logsB es = true) : (lfL es).length ≤ 720 := by
  have := lfTo_len h es.length
  have := logsB_len8 h
  unfold lfL; omega
theorem lfL_sz {es : List (List Ent)} (h : logsB es = true) : iszL (lfL es) ≤ 3600 := by
  have := isz_all (n := 720) (m := 4) (lfL_len h) fun x hx => by rw [(lfTo_mem hx).1]; omega
  omega
def llL (es : List (List Ent)) : List (List Int) := if logsB es then lfL es else []
theorem llL_no {es : List (List Ent)} (h : logsB es = false) : llL es = [] := by simp [llL, h]
theorem llL_yes {es : List (List Ent)} (h : logsB es = true) : llL es = lfL es := by simp [llL, h]
/-- no faults -/
def itB (es : List (List Ent)) : Bool := logsB es && decide ((lfL es).length = 0)

/-- how many of the first k faults each of n towers has -/
def fcTo (fs : List (List Int)) (n k : Nat) : List Int := (List.range n).map fun i : Nat => (((fs.take k).filter fun x => decide (x[3]? = some (i : Int))).length : Int)
theorem fcTo_len (fs : List (List Int)) (n k : Nat) : (fcTo fs n k).length = n := by simp [fcTo]
theorem fcTo_zero (fs : List (List Int)) (n : Nat) : fcTo fs n 0 = List.replicate n 0 := by
  apply List.ext_getElem (by simp [fcTo])
  intro i h1 h2
  simp [fcTo]
theorem fcTo_at (fs : List (List Int)) (n k i : Nat) (h : i < (fcTo fs n k).length) : (fcTo fs n k)[i] = (((fs.take k).filter fun x => decide (x[3]? = some (i : Int))).length : Int) := by simp [fcTo]
theorem fcTo_bd (fs : List (List Int)) (n k i : Nat) (h : i < (fcTo fs n k).length) : 0 ≤ (fcTo fs n k)[i] ∧ (fcTo fs n k)[i] ≤ k := by
  rw [fcTo_at]
  have := List.length_filter_le (fun x : List Int => decide (x[3]? = some (i : Int))) (fs.take k)
  have h2 : (fs.take k).length ≤ k := by simp; omega
  omega
theorem fcTo_succ {fs : List (List Int)} {n k i : Nat} (h : k < fs.length) (hi : i < n) (h3 : fs[k][3]? = some (i : Int)) (hc : i < (fcTo fs n k).length) : (fcTo fs n k).set i ((fcTo fs n k)[i] + 1) = fcTo fs n (k + 1) := by
  apply List.ext_getElem (by simp [fcTo])
  intro j h1 h2
  rw [List.getElem_set]
  have hs : (fs.take (k + 1)) = fs.take k ++ [fs[k]] := List.take_succ_eq_append_getElem h
  by_cases e : i = j
  · subst e
    rw [if_pos rfl, fcTo_at, fcTo_at, hs, List.filter_append, List.length_append]
    simp [h3]
  · rw [if_neg e, fcTo_at, fcTo_at, hs, List.filter_append, List.length_append]
    have : ¬ (fs[k][3]? = some (j : Int)) := by rw [h3]; intro h; injection h with h; omega
    simp [this]
def fcL (es : List (List Ent)) : List Int := if logsB es then fcTo (lfL es) es.length (lfL es).length else []
theorem fcL_no {es : List (List Ent)} (h : logsB es = false) : fcL es = [] := by simp [fcL, h]
theorem fcL_yes {es : List (List Ent)} (h : logsB es = true) : fcL es = fcTo (lfL es) es.length (lfL es).length := by simp [fcL, h]
end Go.Proofs.YtjhbffndiaggmaaDoor

/-
  Plain functions for what is asked of a line's faults and of a part's trace, and their laws. No program here.
-/
namespace Go.Proofs.YtjhbffndiaggmaaDoor
set_option linter.unusedVariables false
set_option linter.unusedSimpArgs false

/-- a fault is one of a part -/
def ffQ (x : List Int) (m p : Int) : Bool := decide (x[0]? = some m) && decide (x[1]? = some p)
theorem ffQ_at (a b q i m p : Int) : ffQ [a, b, q, i] m p = (decide (a = m) && decide (b = p)) := by simp [ffQ]
def ffX (fs : List (List Int)) (m p : Int) : Option (List Int) := fs.find? fun x => ffQ x m p
theorem ffX_at {fs : List (List Int)} {m p : Int} {k : Nat} (h : k < fs.length) (h1 : ffQ fs[k] m p = true) (h2 : ∀ j (h3 : j < fs.length), j < k → ffQ fs[j] m p = false) : ffX fs m p = some fs[k] := by
  unfold ffX
  rw [List.find?_eq_some_iff_getElem]
  exact ⟨h1, k, h, rfl, fun j hj => by simp [h2 j (by omega) hj]⟩
theorem ffX_no {fs : List (List Int)} {m p : Int} (h2 : ∀ j (h3 : j < fs.length), ffQ fs[j] m p = false) : ffX fs m p = none := by
  unfold ffX
  rw [List.find?_eq_none]
  intro x hx
  obtain ⟨j, hj, rfl⟩ := List.getElem_of_mem hx
  simp [h2 j hj]
def ffB (es : List (List Ent)) (m p : Int) : Bool := paB es m p && (ffX (lfL es) m p).isSome
def ffK (es : List (List Ent)) (m p : Int) : Int := if paB es m p then (match ffX (lfL es) m p with | some x => x[2]?.getD 0 | none => 0) else 0
def ffT (es : List (List Ent)) (m p : Int) : Int := if paB es m p then (match ffX (lfL es) m p with | some x => x[3]?.getD 0 | none => 0) else 0
theorem ff_bad {es : List (List Ent)} {m p : Int} (h : paB es m p = false) : ffB es m p = false ∧ ffK es m p = 0 ∧ ffT es m p = 0 := by simp [ffB, ffK, ffT, h]
theorem ff_none {es : List (List Ent)} {m p : Int} (h : paB es m p = true) (h1 : ffX (lfL es) m p = none) : ffB es m p = false ∧ ffK es m p = 0 ∧ ffT es m p = 0 := by simp [ffB, ffK, ffT, h, h1]
theorem ff_some {es : List (List Ent)} {m p a b q i : Int} (h : paB es m p = true) (h1 : ffX (lfL es) m p = some [a, b, q, i]) : ffB es m p = true ∧ ffK es m p = q ∧ ffT es m p = i := by simp [ffB, ffK, ffT, h, h1]

/-- the greatest of numbers that are not negative -/
def mxL (cs : List Int) : Int := cs.foldl max 0
theorem foldl_max_le (cs : List Int) (a M : Int) (ha : a ≤ M) (h : ∀ x ∈ cs, x ≤ M) : cs.foldl max a ≤ M := by
  induction cs generalizing a with
  | nil => exact ha
  | cons x cs ih => exact ih (max a x) (by have := h x (by simp); omega) fun y hy => h y (by simp [hy])
theorem foldl_max_ge (cs : List Int) (a : Int) : a ≤ cs.foldl max a ∧ ∀ x ∈ cs, x ≤ cs.foldl max a := by
  induction cs generalizing a with
  | nil => exact ⟨Int.le_refl _, fun x h => absurd h (by simp)⟩
  | cons x cs ih =>
    have h1 := ih (max a x)
    refine ⟨by simp only [List.foldl_cons]; omega, fun y hy => ?_⟩
    rcases List.mem_cons.1 hy with rfl | hy
    · simp only [List.foldl_cons]; omega
    · exact h1.2 y hy
theorem mxL_eq {cs : List Int} {M : Int} (h : ∀ k (_ : k < cs.length), cs[k] ≤ M) (h0 : 0 ≤ M) (h2 : M = 0 ∨ ∃ j, ∃ h : j < cs.length, cs[j] = M) : mxL cs = M := by
  have h1 : mxL cs ≤ M := foldl_max_le cs 0 M h0 fun x hx => by
    obtain ⟨k, hk, rfl⟩ := List.getElem_of_mem hx
    exact h k hk
  have h3 := foldl_max_ge cs 0
  rcases h2 with rfl | ⟨j, hj, e⟩
  · have := h3.1; unfold mxL at *; omega
  · have := h3.2 _ (List.getElem_mem hj); unfold mxL at *; omega
def msM (es : List (List Ent)) : Int := if logsB es then mxL (fcTo (lfL es) es.length (lfL es).length) else 0
def msI (es : List (List Ent)) : Int := if 0 < msM es then idxI (fcTo (lfL es) es.length (lfL es).length) (msM es) else 0
def msB (es : List (List Ent)) : Bool := decide (0 < msM es)
theorem ms_bad {es : List (List Ent)} (h : logsB es = false) : msM es = 0 ∧ msI es = 0 ∧ msB es = false := by simp [msM, msI, msB, h]
theorem ms_at {es : List (List Ent)} {M : Int} (h : logsB es = true) (h1 : mxL (fcTo (lfL es) es.length (lfL es).length) = M) : msM es = M ∧ msB es = decide (0 < M) := by simp [msM, msB, h, h1]
theorem ms_zero {es : List (List Ent)} (h : msM es = 0) : msI es = 0 := by simp [msI, h]
theorem ms_idx {es : List (List Ent)} {M v : Int} (h : msM es = M) (h0 : 0 < M) (h1 : idxI (fcTo (lfL es) es.length (lfL es).length) M = v) : msI es = v := by simp [msI, h, h0, h1]

/-- what the first of the first k towers with an entry of the part has seen -/
def trF (es : List (List Ent)) (m p : Int) (k : Nat) : Option (List Int) := match (es.take k).find? (fun l => decide (0 ≤ findI l m p)) with | some l => (match l[(findI l m p).toNat]? with | some e => some e.seen | none => none) | none => none
theorem trF_zero (es : List (List Ent)) (m p : Int) : trF es m p 0 = none := by simp [trF]
theorem trF_old {es : List (List Ent)} {m p : Int} {k : Nat} {f : List Int} (h : trF es m p k = some f) : trF es m p (k + 1) = some f := by
  unfold trF at *
  by_cases hk : k < es.length
  · rw [List.take_succ_eq_append_getElem hk, List.find?_append]
    cases hf : (es.take k).find? (fun l => decide (0 ≤ findI l m p)) with
    | none => rw [hf] at h; simp at h
    | some l => rw [hf] at h; simpa using h
  · rw [List.take_of_length_le (by omega)] at h ⊢; exact h
theorem find_none_of_trF {es : List (List Ent)} {m p : Int} {k : Nat} (h : trF es m p k = none) : (es.take k).find? (fun l => decide (0 ≤ findI l m p)) = none := by
  unfold trF at h
  cases hf : (es.take k).find? (fun l => decide (0 ≤ findI l m p)) with
  | none => rfl
  | some l =>
    rw [hf] at h
    have h0 := List.find?_some hf
    obtain ⟨q, hq, hql⟩ := findI_cast (by simpa using h0)
    simp [hq, hql] at h
theorem trF_new {es : List (List Ent)} {m p : Int} {k q : Nat} (h : trF es m p k = none) (hk : k < es.length) (hq : findI es[k] m p = (q : Int)) (hql : q < es[k].length) : trF es m p (k + 1) = some es[k][q].seen := by
  have hf := find_none_of_trF h
  unfold trF
  rw [List.take_succ_eq_append_getElem hk, List.find?_append, hf]
  simp [hq, hql]
theorem trF_none {es : List (List Ent)} {m p : Int} {k : Nat} (h : trF es m p k = none) (hk : k < es.length) (hq : ¬ 0 ≤ findI es[k] m p) : trF es m p (k + 1) = none := by
  have hf := find_none_of_trF h
  unfold trF
  rw [List.take_succ_eq_append_getElem hk, List.find?_append, hf]
  simp [hq]
def trV (l : List Ent) (f : List Int) (m p : Int) : Int := if 0 ≤ findI l m p then (match l[(findI l m p).toNat]? with | some e => if eqL e.shown f then 1 else 2 | none => 0) else 0
theorem trV_0 {l : List Ent} {f : List Int} {m p : Int} (h : ¬ 0 ≤ findI l m p) : trV l f m p = 0 := by simp [trV, h]
theorem trV_1 {l : List Ent} {f : List Int} {m p : Int} {q : Nat} (h : findI l m p = (q : Int)) (hq : q < l.length) (h1 : eqL l[q].shown f = true) : trV l f m p = 1 := by simp [trV, h, hq, h1]
theorem trV_2 {l : List Ent} {f : List Int} {m p : Int} {q : Nat} (h : findI l m p = (q : Int)) (hq : q < l.length) (h1 : eqL l[q].shown f = false) : trV l f m p = 2 := by simp [trV, h, hq, h1]
def trM (es : List (List Ent)) (m p : Int) : List Int := es.mapIdx fun k l => trV l ((trF es m p (k + 1)).getD []) m p
theorem trM_len (es : List (List Ent)) (m p : Int) : (trM es m p).length = es.length := by simp [trM]
theorem trM_at (es : List (List Ent)) (m p : Int) (k : Nat) (h : k < es.length) (h' : k < (trM es m p).length) : (trM es m p)[k] = trV es[k] ((trF es m p (k + 1)).getD []) m p := by simp [trM]
theorem trM_take_succ {es : List (List Ent)} {m p v : Int} {k : Nat} (h : k < es.length) (hv : trV es[k] ((trF es m p (k + 1)).getD []) m p = v) : (trM es m p).take (k + 1) = (trM es m p).take k ++ [v] := by
  rw [List.take_succ_eq_append_getElem (by rw [trM_len]; exact h), trM_at es m p k h, hv]
theorem trM_tk_succ {es : List (List Ent)} {m p v : Int} {k : Nat} (h : k < es.length) (hv : trV es[k] ((trF es m p (k + 1)).getD []) m p = v) : (tk (trM es m p) k).set k v = tk (trM es m p) (k + 1) := by
  have hl : k < (trM es m p).length := by rw [trM_len]; exact h
  rw [← hv, ← trM_at es m p k h hl]; exact tk_succ _ _ hl
theorem tk_self (zs : List Int) (k : Nat) (h : k < zs.length) (h' : k < (tk zs k).length) : (tk zs k)[k] = 0 := by
  have hq : (tk zs k)[k]? = some 0 := by
    unfold tk
    have hl : (zs.take k).length = k := by simp; omega
    rw [List.getElem?_append_right (by omega), hl, Nat.sub_self, List.getElem?_replicate, if_pos (by omega)]
  rw [List.getElem?_eq_getElem h'] at hq
  exact Option.some.inj hq
theorem trM_tk_zero {es : List (List Ent)} {m p : Int} {k : Nat} (h : k < es.length) (hv : trV es[k] ((trF es m p (k + 1)).getD []) m p = 0) : tk (trM es m p) k = tk (trM es m p) (k + 1) := by
  rw [← trM_tk_succ h hv]
  apply List.ext_getElem (by simp)
  intro i h1 h2
  rw [List.getElem_set]
  by_cases e : k = i
  · subst e
    rw [if_pos rfl]
    exact tk_self _ _ (by rw [trM_len]; exact h) _
  · rw [if_neg e]
def trL (es : List (List Ent)) (m p : Int) : List Int := if paB es m p then trM es m p else []
theorem trL_no {es : List (List Ent)} {m p : Int} (h : paB es m p = false) : trL es m p = [] := by simp [trL, h]
theorem trL_yes {es : List (List Ent)} {m p : Int} (h : paB es m p = true) : trL es m p = trM es m p := by simp [trL, h]
end Go.Proofs.YtjhbffndiaggmaaDoor

/-
  Plain laws that the statement FnTraces needs: its traces, times, last towers and first faults. No program here.
-/
namespace Go.Proofs.YtjhbffndiaggmaaDoor
set_option linter.unusedVariables false
set_option linter.unusedSimpArgs false

/-! ### the first fault of a part -/
theorem ffB_logs {es : List (List Ent)} {m p : Int} (h : ffB es m p = true) : logsB es = true ∧ paB es m p = true := by
  simp only [ffB, Bool.and_eq_true] at h
  exact ⟨(paB_log h.1).1, h.1⟩
theorem ff_first {es : List (List Ent)} {m p a b q i : Int} {k : Nat} (h : ffB es m p = true) (hk : k < (lfL es).length) (h1 : (lfL es)[k] = [a, b, q, i]) (ha : a = m) (hb : b = p) (h2 : ∀ j (h3 : j < (lfL es).length), j < k → ffQ (lfL es)[j] m p = false) : ffK es m p = q ∧ ffT es m p = i := by
  have hx := ffX_at (m := m) (p := p) hk (by rw [h1, ffQ_at]; simp [ha, hb]) h2
  rw [h1] at hx
  exact (ff_some (ffB_logs h).2 hx).2
theorem ff_must {es : List (List Ent)} {m p : Int} (h : ffB es m p = true) (h2 : ∀ j (h3 : j < (lfL es).length), ffQ (lfL es)[j] m p = false) : False := by
  have hx := ffX_no h2
  have := (ff_none (ffB_logs h).2 hx).1
  rw [h] at this
  cases this
theorem ffQ_false {x : List Int} {a b q i m p : Int} (hx : x = [a, b, q, i]) (h : ¬ (a = m ∧ b = p)) : ffQ x m p = false := by
  rw [hx, ffQ_at]
  by_cases e : a = m
  · have : ¬ b = p := fun e2 => h ⟨e, e2⟩
    simp [this]
  · simp [e]

/-! ### a part's trace -/
theorem ltB_pa {es : List (List Ent)} {m p : Int} (h : ltB es m p = true) : paB es m p = true := by
  simp only [ltB, Bool.and_eq_true] at h
  exact h.1
theorem pa_lens {es : List (List Ent)} {m p : Int} (h : paB es m p = true) : (trL es m p).length = es.length ∧ (tmL es m p).length = es.length ∧ 1 ≤ es.length ∧ es.length ≤ 8 := by
  have := (paB_log h).2
  rw [trL_yes h, tmL_yes h, trM_len, tmM_len]
  omega
/-- the first tower with an entry of the part, among the first k -/
def seenAt (es : List (List Ent)) (m p : Int) (k : Nat) (s : Int) : Prop :=
  (s = -1 ∧ trF es m p k = none) ∨ ∃ (i q : Nat) (hi : i < es.length) (hq : q < es[i].length), s = (i : Int) ∧ i < k ∧ findI es[i] m p = (q : Int) ∧ trF es m p k = some es[i][q].seen
theorem seenAt_zero (es : List (List Ent)) (m p : Int) : seenAt es m p 0 (-1) := .inl ⟨rfl, trF_zero es m p⟩
section
variable {es : List (List Ent)} {m p s : Int} {k : Nat}
theorem pa_at (h : paB es m p = true) (hk : k < es.length) : logB es[k] = true := (logsB_iff.1 (paB_log h).1).2 k hk
theorem tr_len (h : paB es m p = true) (hk : k < es.length) : k < (trL es m p).length ∧ k < (tmL es m p).length := by have := pa_lens h; omega
/-- a tower without an entry of the part -/
theorem round_no (h : paB es m p = true) (hk : k < es.length) (hs : seenAt es m p k s) (hf : ¬ 0 ≤ findI es[k] m p) :
    (feB es[k] m p = false ∧ feV es[k] m p = 0) ∧ (trL es m p)[k]'(tr_len h hk).1 = 0 ∧ (tmL es m p)[k]'(tr_len h hk).2 = -1 ∧ seenAt es m p (k + 1) s := by
  refine ⟨⟨feB_no hf, feV_no (feB_no hf)⟩, ?_, ?_, ?_⟩
  · simp only [trL_yes h, trM_at es m p k hk (by rw [trM_len]; exact hk), trV_0 hf]
  · simp only [tmL_yes h, tmM_at, tmV_no hf]
  · rcases hs with ⟨rfl, hn⟩ | ⟨i, q, hi, hq, rfl, hik, hfi, ht⟩
    · exact .inl ⟨rfl, trF_none hn hk hf⟩
    · exact .inr ⟨i, q, hi, hq, rfl, by omega, hfi, trF_old ht⟩
/-- a tower with an entry of the part -/
theorem round_yes (h : paB es m p = true) (hk : k < es.length) (hs : seenAt es m p k s) (hf : 0 ≤ findI es[k] m p) :
    ∃ (q i q2 : Nat) (hq : q < es[k].length) (hi : i < es.length) (hq2 : q2 < es[i].length), (feB es[k] m p = true ∧ feV es[k] m p = (q : Int)) ∧ (feB es[i] m p = true ∧ feV es[i] m p = (q2 : Int)) ∧ ((s = -1 ∧ i = k) ∨ s = (i : Int)) ∧
      ((tmL es m p)[k]'(tr_len h hk).2 = es[k][q].time ∧ 0 ≤ es[k][q].time) ∧ ((trL es m p)[k]'(tr_len h hk).1 = if eqL es[k][q].shown es[i][q2].seen then 1 else 2) ∧ seenAt es m p (k + 1) (i : Int) := by
  obtain ⟨q, hfq, hq⟩ := findI_cast hf
  have hB : feB es[k] m p = true := feB_yes (pa_at h hk) hf
  have hV : feV es[k] m p = (q : Int) := (feV_yes hB).trans hfq
  have ht0 := (log_at (pa_at h hk) q hq).1.1
  have htm : (tmL es m p)[k]'(tr_len h hk).2 = es[k][q].time := by simp only [tmL_yes h, tmM_at, tmV_yes hfq hq]
  have htr : ∀ f, trF es m p (k + 1) = some f → (trL es m p)[k]'(tr_len h hk).1 = if eqL es[k][q].shown f then 1 else 2 := by
    intro f hf
    simp only [trL_yes h, trM_at es m p k hk (by rw [trM_len]; exact hk), hf, Option.getD_some]
    cases he : eqL es[k][q].shown f with
    | true => rw [trV_1 hfq hq he]; rfl
    | false => rw [trV_2 hfq hq he]; rfl
  rcases hs with ⟨rfl, hn⟩ | ⟨i, q2, hi, hq2, rfl, hik, hfi, ht⟩
  · have hnew := trF_new hn hk hfq hq
    exact ⟨q, k, q, hq, hk, hq, ⟨hB, hV⟩, ⟨hB, hV⟩, .inl ⟨rfl, rfl⟩, ⟨htm, ht0⟩, htr _ hnew, .inr ⟨k, q, hk, hq, rfl, by omega, hfq, hnew⟩⟩
  · have hold := trF_old ht
    have hB2 : feB es[i] m p = true := feB_yes (pa_at h hi) (by omega)
    exact ⟨q, i, q2, hq, hi, hq2, ⟨hB, hV⟩, ⟨hB2, (feV_yes hB2).trans hfi⟩, .inr rfl, ⟨htm, ht0⟩, htr _ hold, .inr ⟨i, q2, hi, hq2, rfl, by omega, hfi, hold⟩⟩
/-! ### the last tower -/
theorem tr_pos (h : paB es m p = true) (hk : k < es.length) : (0 ≤ findI es[k] m p → 0 < (trL es m p)[k]'(tr_len h hk).1) ∧ (¬ 0 ≤ findI es[k] m p → (trL es m p)[k]'(tr_len h hk).1 = 0) := by
  refine ⟨fun hf => ?_, fun hf => ?_⟩
  · obtain ⟨q, hfq, hq⟩ := findI_cast hf
    simp only [trL_yes h, trM_at es m p k hk (by rw [trM_len]; exact hk)]
    cases he : eqL es[k][q].shown ((trF es m p (k + 1)).getD []) with
    | true => rw [trV_1 hfq hq he]; omega
    | false => rw [trV_2 hfq hq he]; omega
  · simp only [trL_yes h, trM_at es m p k hk (by rw [trM_len]; exact hk), trV_0 hf]
theorem takeWhile_pre {α : Type} (q : α → Bool) (l : List α) (k : Nat) (hk : k < (l.takeWhile q).length) : ∃ h : k < l.length, q l[k] = true := by
  induction l generalizing k with
  | nil => simp at hk
  | cons x l ih =>
    by_cases hx : q x = true
    · rw [List.takeWhile_cons_of_pos hx] at hk
      cases k with
      | zero => exact ⟨by simp, hx⟩
      | succ k =>
        obtain ⟨h1, h2⟩ := ih k (by simpa using hk)
        exact ⟨by simpa using h1, by simpa using h2⟩
    · rw [List.takeWhile_cons_of_neg hx] at hk
      simp at hk
theorem takeWhile_end {α : Type} (q : α → Bool) (l : List α) (h : (l.takeWhile q).length < l.length) : q (l[(l.takeWhile q).length]'h) = false := by
  induction l with
  | nil => simp at h
  | cons x l ih =>
    by_cases hx : q x = true
    · simp only [List.takeWhile_cons_of_pos hx, List.length_cons, List.getElem_cons_succ] at h ⊢
      exact ih (by omega)
    · simp only [List.takeWhile_cons_of_neg hx, List.length_nil, List.getElem_cons_zero]
      simpa using hx
theorem lt_first (h : paB es m p = true) : ltB es m p = decide (0 < (trL es m p)[0]'(by have := pa_lens h; omega)) := by
  have h1 := pa_lens h
  have h0 := tr_pos h (k := 0) (by omega)
  have hl : ltB es m p = decide (0 < ltN es m p) := by simp [ltB, h]
  rw [hl]
  by_cases hf : 0 ≤ findI (es[0]'(by omega)) m p
  · have a := h0.1 hf
    have b : 0 < ltN es m p := by
      unfold ltN
      match es, h1, hf with
      | x :: es, _, hf => simp at hf; simp [hf]
    simp [a, b]
  · have a := h0.2 hf
    have b : ltN es m p = 0 := ltN_at (by omega) hf (fun j _ hj => absurd hj (by omega))
    simp [a, b]
theorem lt_all (h : ltB es m p = true) : ∃ n : Nat, ltV es m p = (n : Int) ∧ n < es.length ∧ (∀ i (hi : i < (trL es m p).length), i ≤ n → 0 < (trL es m p)[i]) ∧ (n + 1 < es.length → ∀ hi : n + 1 < (trL es m p).length, (trL es m p)[n + 1] = 0) := by
  have hp := ltB_pa h
  have hl := pa_lens hp
  have h0 : 0 < ltN es m p := by simpa [ltB, hp] using h
  have hv := ltV_at hp (k := ltN es m p) rfl
  have hlt : ltN es m p ≤ es.length := List.takeWhile_prefix (fun l => decide (0 ≤ findI l m p)) |>.length_le
  refine ⟨ltN es m p - 1, by rw [hv, if_pos (by omega)]; omega, by omega, fun i hi hin => ?_, fun hn hi => ?_⟩
  · obtain ⟨h1, h2⟩ := takeWhile_pre (fun l => decide (0 ≤ findI l m p)) es i (show i < ltN es m p by omega)
    exact (tr_pos hp h1).1 (by simpa using h2)
  · have hn2 : ltN es m p < es.length := by omega
    have he := takeWhile_end (fun l => decide (0 ≤ findI l m p)) es hn2
    have e : ltN es m p - 1 + 1 = ltN es m p := by omega
    have := (tr_pos hp hn2).2 (by
      have he' : decide (0 ≤ findI (es[ltN es m p]'hn2) m p) = false := he
      simpa using he')
    simp only [e]
    exact this
end
end Go.Proofs.YtjhbffndiaggmaaDoor

/-
  Contracts of the laws' own helpers: qInts, qHas, qKeys, qLists, qSecret. The conditions are bounds on lengths.
-/
namespace Go.Proofs.YtjhbffndiaggmaaDoor
open Go.RowKit Go.ChangeShapes Go.WideShapes
set_option linter.unusedVariables false
set_option linter.unusedSimpArgs false

set_option maxHeartbeats 2000000 in
theorem qInts_any (xs ys : List Int) (A A' : Option Addr) (c c' : Nat) {l h l' h' : Nat} (w : World) (hx : Rd w l h A xs) (hy : Rd w l' h' A' ys) (hl : xs.length ≤ 9223372036854775807) (hl' : ys.length ≤ 9223372036854775807) :
    Calls Tryd.prog 20 #[.slice A xs.length c, .slice A' ys.length c'] w fun e w' => e = .returned (.bool (eqL xs ys)) ∧ ∃ n, w.drewN n = w' := by
  by_cases hne : xs.length = ys.length
  · go_enter Tryd.func20, Tryd.ntmps20
    have hn : ((xs.length : Int) != (ys.length : Int)) = false := by simp [hne]
    have hneH := Lib.hid hne
    have hle : xs.length ≤ ys.length := by omega
    clear hne
    go_wp2
    go_loopw [5, 13] (fun _ i wr => ∃ k : Nat, k ≤ xs.length ∧ i = .int .i64 k ∧ (∀ j (h1 : j < xs.length) (h2 : j < ys.length), j < k → xs[j] = ys[j]) ∧ ∃ n, w.drewN n = wr) (fun _ i _ => xs.length - (intOf i).toNat)
    case atStart => exact ⟨0, Nat.zero_le _, rfl, fun j _ _ h => absurd h (by omega), 0, rfl⟩
    case round =>
      obtain ⟨k, hk, rfl, hall, n, rfl⟩ := hrel
      have hallH := Lib.hid hall
      clear hall
      by_cases hlt : k < xs.length
      · obtain ⟨b, off, rfl, _, _, hc⟩ := hx (by omega)
        obtain ⟨b', off', rfl, _, _, hc'⟩ := hy (by omega)
        have hlt' : k < ys.length := by omega
        have hck := hc k hlt
        have hck' := hc' k hlt'
        clear hc hc'
        by_cases heq : xs[k] = ys[k]
        · have ht : (xs[k] != ys[k]) = false := by simp [heq]
          have hq := Lib.hid heq
          clear heq
          go_wp2
          go_quiet (fail)
          go_wp2
          go_roundw
          case rel => exact ⟨k + 1, by omega, by go_num, fun j h1 h2 h3 => by
            by_cases hj : j = k
            · subst hj; exact hq.out
            · exact hallH.out j h1 h2 (by omega), _, by first | rfl | exact (World.drewN_drewN _ _ _).symm⟩
          case measure => simp [intOf]; omega
        · have ht : (xs[k] != ys[k]) = true := by simp [heq]
          have hq := Lib.hid (eqL_at hlt hlt' heq)
          clear heq
          go_wp2
          go_quiet (fail)
          go_wp2
          go_ret
          exact ⟨by rw [hq.out]; rfl, _, by first | rfl | exact (World.drewN_drewN _ _ _).symm⟩
      · have hq := Lib.hid (eqL_take hneH.out fun j h1 h2 => hallH.out j h1 h2 (by omega))
        go_wp2
        go_ret
        exact ⟨by rw [hq.out]; rfl, _, rfl⟩
  · have hq := Lib.hid (eqL_len hne)
    have hn : ((xs.length : Int) != (ys.length : Int)) = true := by simp; omega
    clear hne
    go_enter Tryd.func20, Tryd.ntmps20
    go_wp2
    go_ret
    exact ⟨by rw [hq.out]; rfl, 0, rfl⟩
theorem qInts_v (xs ys : List Int) (A A' : Option Addr) (c c' : Nat) {l h l' h' : Nat} (w : World) (hx : Rd w l h A xs) (hy : Rd w l' h' A' ys) (hl : xs.length ≤ 9223372036854775807) (hl' : ys.length ≤ 9223372036854775807) (v : Bool) (hv : eqL xs ys = v) :
    Calls Tryd.prog 20 #[.slice A xs.length c, .slice A' ys.length c'] w fun e w' => e = .returned (.bool v) ∧ Below w.heap.size w w' :=
  (qInts_any xs ys A A' c c' w hx hy hl hl').mono fun e w' ⟨he, n, hw⟩ => ⟨hv ▸ he, hw ▸ below_refl_drewN n⟩
theorem qInts_t (xs : List Int) (A A' : Option Addr) (k k' c c' : Nat) {l h l' h' : Nat} (w : World) (hk : k = xs.length) (hk' : k' = xs.length) (hx : Rd w l h A xs) (hy : Rd w l' h' A' xs) (hl : xs.length ≤ 1048576) :
    Calls Tryd.prog 20 #[.slice A k c, .slice A' k' c'] w fun e w' => e = .returned (.bool true) ∧ Below w.heap.size w w' := by
  subst hk hk'
  exact qInts_v xs xs A A' c c' w hx hy (by omega) (by omega) true (eqL_self xs)
set_option maxHeartbeats 4000000 in
theorem qLists_t (L : List (List Int)) (A A' : Option Addr) (k k' c c' : Nat) {l h l' h' : Nat} (w : World) (hk : k = L.length) (hk' : k' = L.length) (hx : RdI w l h A L) (hy : RdI w l' h' A' L) (hl : iszL L ≤ 1048576) :
    Calls Tryd.prog 19 #[.slice A k c, .slice A' k' c'] w fun e w' => e = .returned (.bool true) ∧ Below w.heap.size w w' := by
  subst hk hk'
  have hle := isz_len L
  have hB := Below.refl w.heap.size w
  go_enter Tryd.func19, Tryd.ntmps19
  go_wp2_with fail
  go_loopw [5, 13] (fun _ i wr => ∃ k : Nat, k ≤ L.length ∧ i = .int .i64 k ∧ Below w.heap.size w wr) (fun _ i _ => L.length - (intOf i).toNat)
  case atStart => exact ⟨0, Nat.zero_le _, rfl, hB⟩
  case round =>
    clear hB
    obtain ⟨k, hk, rfl, hB⟩ := hrel
    by_cases hlt : k < L.length
    · obtain ⟨b, off, rfl, _, _, hc⟩ := (hx.st hB) (by omega)
      obtain ⟨b', off', rfl, _, _, hc'⟩ := (hy.st hB) (by omega)
      obtain ⟨A1, c1, x0, r1⟩ := hc k hlt
      obtain ⟨A2, c2, x1, r2⟩ := hc' k hlt
      have hxl := isz_at L k hlt
      have hx0 : (0 : Int) ≤ (k : Int) := by omega
      have hx1 : (k : Int) < (L.length : Int) := by omega
      obtain ⟨xs, hxs⟩ : ∃ xs, xs = L[k] := ⟨_, rfl⟩
      rw [← hxs] at x0 x1 r1 r2 hxl
      have xl := World.block_lt_of_cell? wr _ x0
      have xl' := World.block_lt_of_cell? wr _ x1
      dsimp only at xl xl'
      have hxsl : xs.length ≤ 1048576 := by omega
      have r1d := r1.drew
      have r2d := r2.drew
      have hBH := Lib.hid hB.drew
      have hsH := Lib.hid hB.size
      clear hc hc' hx hy hxs hB r1 r2
      go_wp2_with fail
      go_region_held3 (fun w' => w'.cell? ⟨b, off + k, none⟩ = some (.slice A1 xs.length c1) ∧ w'.cell? ⟨b', off' + k, none⟩ = some (.slice A2 xs.length c2))
        (((try go_split_ands); (try dsimp only); (repeat' apply And.intro) <;> (first | assumption | ((refine (hc7 _ _ ?_).trans ?_) <;> assumption))))
        (first
          | (go_at_call 20; ((with_reducible refine (qInts_t xs A1 A2 xs.length xs.length c1 c2 _ rfl rfl r1d r2d hxsl).mono ?_); rintro e w7 ⟨rfl, hb7⟩; (have hc7 := (bcell hb7).1))))
      all_goals
        have hBK := Lib.hid (hBH.out.trans (hb7.mono hsH.out))
        clear hb7 hc7 r1d r2d x0 x1 xl xl'
        go_wp2_with fail
        go_roundw
        case rel => exact ⟨k + 1, by omega, by go_num, hBK.out⟩
        case measure => simp [intOf]; omega
    · have hlt2 : ¬ ((k : Int) < (L.length : Int)) := by omega
      have hBH := Lib.hid hB
      clear hB
      go_wp2_with fail
      go_ret
      exact ⟨rfl, hBH.out⟩
end Go.Proofs.YtjhbffndiaggmaaDoor
