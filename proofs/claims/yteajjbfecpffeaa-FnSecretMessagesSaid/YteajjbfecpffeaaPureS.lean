/-
  Plain functions for hidden signals, and their laws. No program here.
-/
import Derived.Test.YteajjbfecpffeaaPure
namespace Go.Proofs.Yteajjbfecpffeaa
set_option linter.unusedVariables false

/-- a signal s moved on by a number n of a page, 'by' times (1 or -1) -/
def shf (s n by_ : Int) : Int := (s - 1 + by_ * n) % 60 + 1
theorem shf_impl {s n by_ : Int} (hs : 1 ≤ s ∧ s ≤ 60) (hn : 0 ≤ n ∧ n ≤ 59) (hb : by_ = 1 ∨ by_ = -1) : (s - 1 + by_ * n + 60) % 60 + 1 = shf s n by_ := by
  unfold shf; rw [Int.add_emod_right]
theorem shf_spec {s n by_ : Int} (hs : 1 ≤ s ∧ s ≤ 60) (hn : 0 ≤ n ∧ n ≤ 59) (hb : by_ = 1 ∨ by_ = -1) : ((s - 1 + by_ * n).tmod 60 + 60) % 60 + 1 = shf s n by_ := by
  unfold shf
  rcases hb with rfl | rfl
  · rw [Int.tmod_eq_emod_of_nonneg (by omega)]; omega
  · by_cases h : 0 ≤ s - 1 + -1 * n
    · rw [Int.tmod_eq_emod_of_nonneg h]; omega
    · have : (s - 1 + -1 * n).tmod 60 = -((-(s - 1 + -1 * n)) % 60) := by
        rw [show s - 1 + -1 * n = -(-(s - 1 + -1 * n)) from by omega, Int.neg_tmod, Int.tmod_eq_emod_of_nonneg (by omega)]
        omega
      rw [this]; omega
theorem shf_bd (s n by_ : Int) : 1 ≤ shf s n by_ ∧ shf s n by_ ≤ 60 := by unfold shf; omega
/-- signals moved on by numbers, place by place -/
def shL (ss ns : List Int) (by_ : Int) : List Int := List.zipWith (fun s n => shf s n by_) ss ns
theorem shL_len (ss ns : List Int) (by_ : Int) (h : ss.length ≤ ns.length) : (shL ss ns by_).length = ss.length := by simp [shL]; omega
theorem shL_at (ss ns : List Int) (by_ : Int) (k : Nat) (h1 : k < ss.length) (h2 : k < ns.length) (h : k < (shL ss ns by_).length) : (shL ss ns by_)[k] = shf ss[k] ns[k] by_ := by simp [shL]

end Go.Proofs.Yteajjbfecpffeaa
