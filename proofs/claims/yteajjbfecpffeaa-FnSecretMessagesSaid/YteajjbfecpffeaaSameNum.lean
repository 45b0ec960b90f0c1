/-
  Contracts of SameNumbers. The conditions are bounds on lengths.
-/
import Derived.Test.YteajjbfecpffeaaKeyPage
import Derived.Deep.RegionHeld3
namespace Go.Proofs.Yteajjbfecpffeaa
open Go.RowKit Go.ChangeShapes Go.WideShapes
set_option linter.unusedVariables false

def snB (k1 p1 : Int) (z1 : List Int) (p q : Int) : Bool := pgB k1 p1 z1 p && pgB k1 p1 z1 q
/-- the places below k at which two lists hold the same -/
def snTo (x y : List Int) (k : Nat) : List Int := ((List.range k).filter fun i => x[i]? == y[i]?).map fun i : Nat => (i : Int)
theorem snTo_len (x y : List Int) (k : Nat) : (snTo x y k).length ≤ k := by
  unfold snTo; rw [List.length_map]; exact Nat.le_trans (List.length_filter_le _ _) (by simp)
theorem snTo_yes {x y : List Int} {k : Nat} (h : x[k]? = y[k]?) : snTo x y (k + 1) = snTo x y k ++ [(k : Int)] := by
  unfold snTo; rw [List.range_succ, List.filter_append, List.map_append]; simp [h]
theorem snTo_no {x y : List Int} {k : Nat} (h : x[k]? ≠ y[k]?) : snTo x y (k + 1) = snTo x y k := by
  unfold snTo; rw [List.range_succ, List.filter_append, List.map_append]; simp [h]
def snL (k1 p1 : Int) (z1 : List Int) (p q : Int) : List Int := if snB k1 p1 z1 p q then snTo (pageL k1 p) (pageL k1 q) 20 else []
theorem snL_len (k1 p1 : Int) (z1 : List Int) (p q : Int) : (snL k1 p1 z1 p q).length ≤ 20 := by
  unfold snL; split
  · exact snTo_len _ _ _
  · simp



end Go.Proofs.Yteajjbfecpffeaa
