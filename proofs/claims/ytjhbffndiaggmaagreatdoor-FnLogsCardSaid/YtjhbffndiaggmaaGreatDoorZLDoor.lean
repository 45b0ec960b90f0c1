/-
  What the statements of this seat have in common: the condition on the library's tables, from the row to the walks. No conditions of its own.
-/
import Derived.Test.YtjhbffndiaggmaaGreatDoorZLShut
import Derived.Test.YtjhbffndiaggmaaGreatDoorTie
import Derived.Test.YtjhbffndiaggmaaGreatDoorCards
import Derived.Test.YtjhbffndiaggmaaGreatDoorZLJoinN
import Derived.Lay
import Derived.LaidMore
import Derived.MakeChecks
import Derived.Stop.LaidErr
import Derived.SevenTiedAt
namespace Go.Proofs.YtjhbffndiaggmaaGreatDoor
open Go.RowKit Go.WideShapes Go.ChangeShapes Go.ChangeAt
set_option linter.unusedVariables false
set_option maxRecDepth 100000

theorem powData : (Rows.laid_internal_strconv_uint64pow10 : DataW Unit) = Lib.tabData .u64 Lib.pow10Tab := by kernel_rfl
theorem pow_met {W : World} {x y : String × DataW Unit} {rest : List (String × DataW Unit)} (h : laidMet Tryz.prog (x :: y :: ("internal/strconv.uint64pow10", Rows.laid_internal_strconv_uint64pow10) :: rest) W) : Pow W := by
  have h2 := h.tail.tail
  rw [powData] at h2
  exact Lib.tabIs_of_head powNamed (t := 204) (n := 20) (e := 100) (by kernel_rfl) (by kernel_rfl) (by kernel_rfl) (by kernel_rfl) (by kernel_rfl) h2
theorem pow3 {W : World} (h : laidMetH Tryz.prog [("math/bits.deBruijn32tab", Rows.laid_math_bits_deBruijn32tab), ("math/bits.deBruijn64tab", Rows.laid_math_bits_deBruijn64tab), ("internal/strconv.uint64pow10", Rows.laid_internal_strconv_uint64pow10)] W) : Pow W := by
  rw [MakeChecks.laidMetH_plain _ _ _ (by kernel_rfl)] at h
  exact pow_met h
end Go.Proofs.YtjhbffndiaggmaaGreatDoor
