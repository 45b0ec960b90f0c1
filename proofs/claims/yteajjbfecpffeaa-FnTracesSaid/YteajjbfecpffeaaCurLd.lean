/-
  Contracts of the draws of logs. The conditions are bounds on lengths.
-/
import Derived.Test.YteajjbfecpffeaaCurLg
import Derived.Test.YteajjbfecpffeaaCurP
import Derived.Test.YteajjbfecpffeaaLawB
namespace Go.Proofs.Yteajjbfecpffeaa
open Go.RowKit Go.ChangeShapes Go.WideShapes
set_option linter.unusedVariables false
set_option linter.unusedSimpArgs false

theorem CodeAt.st {w w' : World} {A : Option Addr} {n : Nat} (h : CodeAt w w.heap.size A n) (hb : Below w.heap.size w w') : CodeAt w' w'.heap.size A n := (h.keep fun b o _ h2 => World.cell?_of_block (w := w) (hb.block b h2)).up hb.size
end Go.Proofs.Yteajjbfecpffeaa
