/-
  Contracts of the tests on intervals at a known answer. No conditions.
-/
import Derived.Test.YtbagliaelolhcaaIntLow
namespace Go.Proofs.Ytbagliaelolhcaa
open Go.RowKit Go.ChangeShapes Go.WideShapes
set_option linter.unusedVariables false

theorem within_q (n lo hi : Int) (w : World) (k : Nat) (v : Bool) (hv : inB n lo hi = v) :
    Calls Try.prog 96 #[.int .i64 n, .int .i64 lo, .int .i64 hi] (w.drewN k) fun e w' => e = .returned (.bool v) ∧ ∃ m, w' = w.drewN m :=
  (within_any n lo hi (w.drewN k)).mono fun e w' ⟨he, hw⟩ => ⟨hv ▸ he, k, hw.symm⟩
theorem within_u (n lo hi : Int) (w : World) (v : Bool) (hv : inB n lo hi = v) :
    Calls Try.prog 96 #[.int .i64 n, .int .i64 lo, .int .i64 hi] w fun e w' => e = .returned (.bool v) ∧ w = w' :=
  (within_any n lo hi w).mono fun e w' ⟨he, hw⟩ => ⟨hv ▸ he, hw⟩
theorem l1In_q (n lo hi : Int) (w : World) (k : Nat) (v : Bool) (hv : inB n lo hi = v) :
    Calls Try.prog 93 #[.int .i64 n, .int .i64 lo, .int .i64 hi] (w.drewN k) fun e w' => e = .returned (.bool v) ∧ ∃ m, w' = w.drewN m :=
  (l1In_any n lo hi (w.drewN k)).mono fun e w' ⟨he, hw⟩ => ⟨hv ▸ he, k, hw.symm⟩
theorem l1In_u (n lo hi : Int) (w : World) (v : Bool) (hv : inB n lo hi = v) :
    Calls Try.prog 93 #[.int .i64 n, .int .i64 lo, .int .i64 hi] w fun e w' => e = .returned (.bool v) ∧ w = w' :=
  (l1In_any n lo hi w).mono fun e w' ⟨he, hw⟩ => ⟨hv ▸ he, hw⟩
end Go.Proofs.Ytbagliaelolhcaa
