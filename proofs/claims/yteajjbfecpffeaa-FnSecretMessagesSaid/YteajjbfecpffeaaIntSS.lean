/-
  Contracts of the statements' own helpers on slices of slices of integers: equality and marks. The conditions are bounds on lengths.
-/
import Derived.Test.YteajjbfecpffeaaMemI
import Derived.Test.YteajjbfecpffeaaMarkE
import Derived.Test.YteajjbfecpffeaaLawKit
namespace Go.Proofs.Yteajjbfecpffeaa
open Go.RowKit Go.ChangeShapes Go.WideShapes
set_option linter.unusedVariables false
set_option linter.unusedSimpArgs false

def isum (es : List (List Int)) (j : Nat) : Nat := ((es.take j).map List.length).sum
theorem isum_zero (es : List (List Int)) : isum es 0 = 0 := by simp [isum]
theorem isum_succ (es : List (List Int)) (k : Nat) (h : k < es.length) : isum es (k + 1) = isum es k + es[k].length := by
  unfold isum; rw [List.take_succ_eq_append_getElem h, List.map_append, List.sum_append]; simp
theorem isum_le (es : List (List Int)) (k : Nat) : isum es k ≤ isum es es.length := by
  unfold isum
  rw [List.take_length]
  conv => rhs; rw [← List.take_append_drop k es]
  rw [List.map_append, List.sum_append]
  omega
def iszL (es : List (List Int)) : Nat := es.length + isum es es.length
theorem isz_len (es : List (List Int)) : es.length ≤ iszL es := by unfold iszL; omega
theorem isz_at (es : List (List Int)) (k : Nat) (h : k < es.length) : es[k].length ≤ iszL es := by
  have := isum_succ es k h; have := isum_le es (k + 1); unfold iszL; omega
theorem isz_nil : iszL [] = 0 := by simp [iszL, isum]
theorem isz_all {es : List (List Int)} {n m : Nat} (h : es.length ≤ n) (h2 : ∀ x ∈ es, x.length ≤ m) : iszL es ≤ n * (m + 1) := by
  have : isum es es.length ≤ es.length * m := by
    unfold isum
    rw [List.take_length]
    clear h
    induction es with
    | nil => simp
    | cons a es ih =>
      have h1 := h2 a (by simp)
      have h3 := ih fun x hx => h2 x (by simp [hx])
      simp only [List.map_cons, List.sum_cons, List.length_cons, Nat.add_mul, Nat.one_mul]
      omega
  have h4 : es.length * m ≤ n * m := Nat.mul_le_mul_right _ h
  unfold iszL
  rw [Nat.mul_add, Nat.mul_one]
  omega
/-- the marks -/
def mkITo (es : List (List Int)) (k0 : Int) (j : Nat) : List (List Int) := es.mapIdx fun i z => if i < j then fill (k0 + isum es i) z.length else z
theorem mkITo_len (es : List (List Int)) (k0 : Int) (j : Nat) : (mkITo es k0 j).length = es.length := by simp [mkITo]
theorem mkITo_zero (es : List (List Int)) (k0 : Int) : mkITo es k0 0 = es := by
  apply List.ext_getElem (by simp [mkITo])
  intro i h1 h2
  simp [mkITo]
theorem mkITo_get (es : List (List Int)) (k0 : Int) (k : Nat) (h : k < es.length) (h' : k < (mkITo es k0 k).length) : (mkITo es k0 k)[k] = es[k] := by simp [mkITo]
theorem mkITo_succ (es : List (List Int)) (k0 : Int) (k : Nat) (h : k < es.length) : (mkITo es k0 k).set k (fill (k0 + isum es k) es[k].length) = mkITo es k0 (k + 1) := by
  apply List.ext_getElem (by simp [mkITo])
  intro i h1 h2
  rw [List.getElem_set]
  by_cases e : k = i
  · subst e
    simp [mkITo]
  · rw [if_neg e]
    simp only [mkITo, List.getElem_mapIdx]
    by_cases e2 : i < k
    · rw [if_pos e2, if_pos (by omega)]
    · rw [if_neg e2, if_neg (by omega)]
def mkI (es : List (List Int)) (k0 : Int) : List (List Int) := mkITo es k0 es.length
theorem mkI_len (es : List (List Int)) (k0 : Int) : (mkI es k0).length = es.length := mkITo_len _ _ _
theorem mkI_at (es : List (List Int)) (k0 : Int) (k : Nat) (h : k < es.length) (h' : k < (mkI es k0).length) : (mkI es k0)[k] = fill (k0 + isum es k) es[k].length := by simp [mkI, mkITo, h]

/-- the k-th of the slices, opened for marks -/
theorem OwnI.open_ {w : World} {lo hi n c k : Nat} {A : Option Addr} {es : List (List Int)} (h : OwnI w lo hi (.slice A n c) es) (hk : k < es.length) :
    ∃ g A1 c1 l r, A = some ⟨g, 0, none⟩ ∧ lo ≤ g ∧ g < hi ∧ w.cell? ⟨g, k, none⟩ = some (.slice A1 es[k].length c1) ∧ Own w l r (.slice A1 es[k].length c1) es[k] ∧ (∀ b, l ≤ b → b < r → b ≠ g ∧ lo ≤ b ∧ b < hi) ∧
      ∀ (w' : World) (s' : List Int), s'.length = es[k].length → Fr l r w w' → Own w' l r (.slice A1 es[k].length c1) s' → OwnI w' lo hi (.slice A n c) (es.set k s') := by
  rcases h with ⟨_, rfl⟩ | ⟨g, cap, cur, U, e0, a1, a2, hg, c1, c2, c3, hj, hd⟩
  · exact absurd hk (by simp)
  · injection e0 with e1 e2 e3
    subst e1 e2 e3
    obtain ⟨x0, hu⟩ := hj k hk
    obtain ⟨A1, d1, eu, _, _⟩ := hu.rd
    have nu := hu.ne_sl hg
    obtain ⟨l, r, hu1, tu⟩ := hu.tight
    have hfr : ∀ b, l ≤ b → b < r → b ≠ g ∧ lo ≤ b ∧ b < hi := fun b h1 h2 => by
      obtain ⟨o1, o2, o3⟩ := tu b h1 h2
      exact ⟨fun e => nu (by rw [o1, e]), o2, o3⟩
    refine ⟨g, A1, d1, l, r, rfl, a1, a2, (cell_of_row w g k cur _ _ hg).trans (x0.trans (by rw [eu])), eu ▸ hu1, hfr, ?_⟩
    intro w' s' hl hf hs'
    rw [← eu] at hs'
    have hgw : w'.heap[g]? = w.heap[g]? := hf.block g (Array.getElem?_eq_some_iff.1 hg).1 (by
      by_cases hb : l ≤ g ∧ g < r
      · exact absurd rfl (hfr g hb.1 hb.2).1
      · omega)
    refine .inr ⟨g, c, cur, U, by rw [List.length_set], a1, a2, hgw.trans hg, by rw [List.length_set]; exact c1, c2, c3, ?_, by rw [List.length_set]; exact hd⟩
    intro j hjl
    rw [List.length_set] at hjl
    by_cases hjk : j = k
    · subst hjk
      simp only [List.getElem_set_self]
      exact ⟨x0, hs'.wide fun b h1 h2 => (tu b h1 h2).2⟩
    · simp only [List.getElem_set_ne (Ne.symm hjk)]
      obtain ⟨y0, p⟩ := hj j hjl
      refine ⟨y0, p.keep fun b hb _ _ hlt => hf.block b hlt ?_⟩
      by_cases hb2 : l ≤ b ∧ b < r
      · obtain ⟨o1, _⟩ := tu b hb2.1 hb2.2
        rcases hd j k hjl hk hjk with d | d
        · rw [hb] at d; cases d
        · exact absurd (by rw [hb, o1]) d
      · omega



end Go.Proofs.Yteajjbfecpffeaa
