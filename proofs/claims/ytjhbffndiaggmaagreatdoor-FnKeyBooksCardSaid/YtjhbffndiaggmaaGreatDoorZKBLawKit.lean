/-
  The statements' helpers in the form in which the walks through the laws call them: each ends in 'what was there is as it was'. No conditions beyond bounds on lengths.
-/
import Derived.Test.YtjhbffndiaggmaaGreatDoorZKBInts
import Derived.Deep.RegionHeld3
namespace Go.Proofs.YtjhbffndiaggmaaGreatDoor
open Go.RowKit Go.ChangeShapes Go.WideShapes
set_option linter.unusedVariables false

theorem cell_realloc {w : World} {o o' : Obj} {p : Addr} {v : Value} (hlt : p.block < w.heap.size) (h : (w.alloc o).cell? p = some v) : (w.alloc o').cell? p = some v := by
  rw [World.cell?_alloc_lt w _ _ hlt] at h ⊢; exact h

end Go.Proofs.YtjhbffndiaggmaaGreatDoor
