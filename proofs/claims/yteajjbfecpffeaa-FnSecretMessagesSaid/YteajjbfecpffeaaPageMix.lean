/-
  Contracts of PageMix, of the program and of the reference. No conditions but the bound on a slice's length.
-/
import Derived.Test.YteajjbfecpffeaaIntLow
namespace Go.Proofs.Yteajjbfecpffeaa
open Go.RowKit Go.ChangeShapes Go.WideShapes
set_option linter.unusedVariables false

def pmB (zs : List Int) : Bool := decide (zs.length ≤ 5) && allB zs 0 1000000000
def pmV (zs : List Int) : Int := if pmB zs then mixL zs else 0
theorem pmB_t {zs : List Int} (h : zs.length ≤ 5) (h1 : allB zs 0 1000000000 = true) : pmB zs = true ∧ pmV zs = mixL zs := by
  have : pmB zs = true := by simp [pmB, h, h1]
  exact ⟨this, by simp [pmV, this]⟩
theorem pmB_f {zs : List Int} (h : ¬ (zs.length ≤ 5 ∧ allB zs 0 1000000000 = true)) : pmB zs = false ∧ pmV zs = 0 := by
  have : pmB zs = false := by cases hb : pmB zs with | false => rfl | true => simp [pmB] at hb; exact absurd hb h
  exact ⟨this, by simp [pmV, this]⟩

theorem ret_ib {a b : Int} {p q : Bool} (h : a = b) (h' : p = q) : Ending.returned (.tuple #[.int .i64 a, .bool p]) = .returned (.tuple #[.int .i64 b, .bool q]) := by rw [h, h']

end Go.Proofs.Yteajjbfecpffeaa
