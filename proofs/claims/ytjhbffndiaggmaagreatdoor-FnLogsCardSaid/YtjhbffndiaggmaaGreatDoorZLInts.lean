/-
  Contracts of the statements' own helpers on slices of integers: size, copy, equality, marks. The conditions are bounds on the lengths.
-/
import Derived.Test.YtjhbffndiaggmaaGreatDoorBL1
import Derived.Test.YtjhbffndiaggmaaGreatDoorBL2
import Derived.BigQuiet
import Derived.Deep.QuietTactic
namespace Go.Proofs.YtjhbffndiaggmaaGreatDoor
open Go.RowKit Go.ChangeShapes Go.WideShapes
set_option linter.unusedVariables false

def szL (n : Nat) (left : Int) : Int := if left - (n : Int) < 0 then -1 else left - (n : Int)


end Go.Proofs.YtjhbffndiaggmaaGreatDoor
