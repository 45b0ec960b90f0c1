/-
  The walk through FnExactFaultText, call by call. Printed by a program of this claim's own. No conditions beyond the bounds of Go's slices.
-/
import Derived.Test.YtaoobcjannbnjaaDoorLawKit
import Derived.Test.YtaoobcjannbnjaaDoorFaText
namespace Go.Proofs.YtaoobcjannbnjaaDoor.fnExactFaultText
open Go.ChangeShapes Go.WideShapes Go.ChangeAt Go.RowKit
set_option linter.unusedVariables false

set_option maxRecDepth 100000 in
set_option maxHeartbeats 4000000 in
theorem walk (a0_0 : List Int) (Aa0_0 : Option Addr) (ca0_0 : Nat) (w : World) (h0_0 : Rd w 0 w.heap.size Aa0_0 a0_0) (l0_0 : a0_0.length ≤ 9223372036854775807) (hP : Pow w) :
    Calls Tryd.prog 3 #[.slice Aa0_0 a0_0.length ca0_0] w fun e w' => e = .returned (.bool true) ∧ Below w.heap.size w w' := by
  by_cases z0 : a0_0.length ≤ 1048576
  · skip
    go_enter Tryd.func3, Tryd.ntmps3
    go_wp2_with fail
    ((with_reducible refine (toIntS_b a0_0 Aa0_0 ca0_0 _ h0_0 (by omega)).mono ?_); rintro e w1 ⟨A1_0, c1_0, rfl, o1_0, hb1⟩)
    have s1 : w.heap.size ≤ w1.heap.size := by have := hb1.size; simpa using this
    have B1 : Below w.heap.size w w1 := ((Below.refl w.heap.size w)).trans (hb1.mono (by first | omega | (simp <;> omega)))
    go_wp2_with fail
    ((with_reducible refine (sFaultText_any a0_0 A1_0 c1_0 _ ((o1_0).rd') (by omega) ).mono ?_); rintro e w2 ⟨rfl, hb2⟩)
    have s2 : w1.heap.size ≤ w2.heap.size := by have := hb2.size; simpa using this
    have B2 : Below w.heap.size w w2 := (B1).trans (hb2.mono (by first | omega | (simp <;> omega)))
    have o1_0v2 := (o1_0).st hb2
    clear o1_0
    go_wp2_with fail
    ((with_reducible refine (toIntS_b a0_0 Aa0_0 ca0_0 _ ((h0_0.below B2 (Nat.le_refl _))) (by omega)).mono ?_); rintro e w3 ⟨A3_0, c3_0, rfl, o3_0, hb3⟩)
    have s3 : w2.heap.size ≤ w3.heap.size := by have := hb3.size; simpa using this
    have B3 : Below w.heap.size w w3 := (B2).trans (hb3.mono (by first | omega | (simp <;> omega)))
    go_wp2_with fail
    ((with_reducible refine (iFaultText_any a0_0 A3_0 c3_0 _ ((o3_0).rd') (by omega) (o3_0).len.2 ((hP.below B3 hP.lt))).mono ?_); rintro e w4 ⟨rfl, hb4⟩)
    have s4 : w3.heap.size ≤ w4.heap.size := by have := hb4.size; simpa using this
    have B4 : Below w.heap.size w w4 := (B3).trans (hb4.mono (by first | omega | (simp <;> omega)))
    have o3_0v4 := (o3_0).st hb4
    clear o3_0
    have hq0 := eqL_self a0_0
    go_wp2_with fail
    ((with_reducible refine (toIntS_b a0_0 Aa0_0 ca0_0 _ ((h0_0.below B4 (Nat.le_refl _))) (by omega)).mono ?_); rintro e w5 ⟨A5_0, c5_0, rfl, o5_0, hb5⟩)
    have s5 : w4.heap.size ≤ w5.heap.size := by have := hb5.size; simpa using this
    have B5 : Below w.heap.size w w5 := (B4).trans (hb5.mono (by first | omega | (simp <;> omega)))
    have o3_0v5 := (o3_0v4).st hb5
    clear o3_0v4
    go_wp2_with fail
    ((with_reducible refine (eqIntS_b a0_0 A3_0 c3_0 a0_0 A5_0 c5_0 _ ((o3_0v5).rd') ((o5_0).rd') (by omega) (by omega)).mono ?_); rintro e w6 ⟨rfl, hb6⟩)
    have s6 : w5.heap.size ≤ w6.heap.size := by have := hb6.size; simpa using this
    have B6 : Below w.heap.size w w6 := (B5).trans (hb6.mono (by first | omega | (simp <;> omega)))
    have o3_0v6 := (o3_0v5).st hb6
    have o5_0v6 := (o5_0).st hb6
    clear o3_0v5 o5_0
    go_wp2_with fail
    go_ret
    exact ⟨rfl, B6⟩
  · go_enter Tryd.func3, Tryd.ntmps3
    go_wp2_with fail
    go_ret
    exact ⟨rfl, (Below.refl w.heap.size w)⟩

end Go.Proofs.YtaoobcjannbnjaaDoor.fnExactFaultText
