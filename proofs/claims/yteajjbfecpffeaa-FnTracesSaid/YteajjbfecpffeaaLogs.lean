/-
  Contracts on slices of logs: the statements' helpers (size, copy, equality). The conditions are bounds on lengths.
-/
import Derived.Test.YteajjbfecpffeaaMemEE
namespace Go.Proofs.Yteajjbfecpffeaa
open Go.RowKit Go.ChangeShapes Go.WideShapes
set_option linter.unusedVariables false
set_option linter.unusedSimpArgs false

end Go.Proofs.Yteajjbfecpffeaa
