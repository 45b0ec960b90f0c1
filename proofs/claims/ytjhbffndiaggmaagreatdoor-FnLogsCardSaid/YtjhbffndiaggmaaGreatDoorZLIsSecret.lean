/-
  The reference's validity of a secret, as the statement calls it. The conditions are bounds on lengths, and that there is room for what is read.
-/
import Derived.Test.YtjhbffndiaggmaaGreatDoorZLSecret
namespace Go.Proofs.YtjhbffndiaggmaaGreatDoor
open Go.RowKit Go.ChangeShapes Go.WideShapes
end Go.Proofs.YtjhbffndiaggmaaGreatDoor
