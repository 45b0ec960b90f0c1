/-
  The statements' helpers that mark a secret's memory and look whether the marks are held. The conditions are bounds on lengths.
-/
import Derived.Test.YteajjbfecpffeaaMarkE
import Derived.Test.YteajjbfecpffeaaSecret
import Derived.Test.YteajjbfecpffeaaLawKit
namespace Go.Proofs.Yteajjbfecpffeaa
open Go.RowKit Go.ChangeShapes Go.WideShapes
set_option linter.unusedVariables false
set_option linter.unusedSimpArgs false

theorem out_of_tight {w : World} {lo hi l r : Nat} {u : Value} {s : List Int} (h : Own w lo hi u s) (t : ∀ b, l ≤ b → b < r → u.ownBlock = some b ∧ lo ≤ b ∧ b < hi) {b : Nat} (hb : w.heap.size ≤ b) : b < l ∨ r ≤ b := by
  by_cases h1 : l ≤ b ∧ b < r
  · have := (h.lt b (t b h1.1 h1.2).1).2.2
    omega
  · omega
theorem Own.apart {w w' : World} {lo hi l r : Nat} {u v : Value} {z : List Int} (h2 : Own w lo hi v z) (hd : Dj u v) (t : ∀ b, l ≤ b → b < r → u.ownBlock = some b ∧ lo ≤ b ∧ b < hi) (hf : Fr l r w w') : Own w' lo hi v z :=
  h2.keep fun k hk _ _ h3 => hf.block k h3 (by
    by_cases hx : l ≤ k ∧ k < r
    · obtain ⟨o1, _⟩ := t k hx.1 hx.2
      rcases hd with d | d
      · rw [o1] at d; cases d
      · exact absurd (by rw [o1, hk]) d
    · omega)

theorem dj_turn {p q : Value} (h : Dj p q) : Dj q p := by
  unfold Dj at *
  cases hq : q.ownBlock with
  | none => exact .inl rfl
  | some z =>
    right
    rcases h with h | h
    · rw [h]; simp
    · rw [← hq]; exact fun e => h e.symm
end Go.Proofs.Yteajjbfecpffeaa
