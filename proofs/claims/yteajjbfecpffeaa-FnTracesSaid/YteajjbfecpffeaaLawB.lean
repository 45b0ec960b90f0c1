/-
  Contracts of the laws' own helpers: sameInts, pIn, pSameKeys. The conditions are bounds on lengths.
-/
import Derived.Test.YteajjbfecpffeaaIntLow
namespace Go.Proofs.Yteajjbfecpffeaa
open Go.RowKit Go.ChangeShapes Go.WideShapes
set_option linter.unusedVariables false
set_option linter.unusedSimpArgs false

end Go.Proofs.Yteajjbfecpffeaa
