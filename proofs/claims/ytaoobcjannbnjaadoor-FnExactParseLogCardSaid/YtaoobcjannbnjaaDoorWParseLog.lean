/-
  The walk through FnExactParseLog, call by call. Printed by a program of this claim's own. No conditions beyond the bounds of Go's slices.
-/
import Derived.Test.YtaoobcjannbnjaaDoorLawKit
import Derived.Test.YtaoobcjannbnjaaDoorRlg
import Derived.Test.YtaoobcjannbnjaaDoorMarkR
import Derived.Test.YtaoobcjannbnjaaDoorMarkH
namespace Go.Proofs.YtaoobcjannbnjaaDoor.fnExactParseLog
open Go.ChangeShapes Go.WideShapes Go.ChangeAt Go.RowKit
set_option linter.unusedVariables false

set_option maxRecDepth 100000 in
set_option maxHeartbeats 4000000 in
theorem walk (a0_0 : ByteArray) (w : World) (l0 : a0_0.size ≤ 9223372036854775807) (hS : Sen w) :
    Calls Tryd.prog 8 #[.string a0_0] w fun e w' => e = .returned (.bool true) ∧ Below w.heap.size w w' := by
  by_cases z0 : a0_0.size ≤ 1048576
  · skip
    go_enter Tryd.func8, Tryd.ntmps8
    go_wp2_with fail
    ((with_reducible refine (sParseLog_any a0_0 _   (by omega) ).mono ?_); rintro e w1 ⟨A1_0_0, c1_0_0, rfl, o1_0_0, l1_0, hb1⟩)
    have s1 : w.heap.size ≤ w1.heap.size := by have := hb1.size; simpa using this
    have B1 : Below w.heap.size w w1 := ((Below.refl w.heap.size w)).trans (hb1.mono (by first | omega | (simp <;> omega)))
    go_wp2_with fail
    ((with_reducible refine (iParseLog_any a0_0 _   (by omega)  ((hS.st B1))).mono ?_); rintro e w2 ⟨A2_0_0, c2_0_0, rfl, o2_0_0, l2_0, hb2⟩)
    have s2 : w1.heap.size ≤ w2.heap.size := by have := hb2.size; simpa using this
    have B2 : Below w.heap.size w w2 := (B1).trans (hb2.mono (by first | omega | (simp <;> omega)))
    have o1_0_0v2 := (o1_0_0).st hb2
    clear o1_0_0
    go_wp2_with fail
    ((with_reducible refine (eqEntryS_b (pqL a0_0) A2_0_0 c2_0_0 (pqL a0_0) A1_0_0 c1_0_0 _ ((o2_0_0).rd') o1_0_0v2 (by omega) (by omega)).mono ?_); rintro e w3 ⟨rfl, hb3⟩)
    have s3 : w2.heap.size ≤ w3.heap.size := by have := hb3.size; simpa using this
    have B3 : Below w.heap.size w w3 := (B2).trans (hb3.mono (by first | omega | (simp <;> omega)))
    have o1_0_0v3 := (o1_0_0v2).st hb3
    have o2_0_0v3 := (o2_0_0).st hb3
    clear o1_0_0v2 o2_0_0
    go_wp2_with fail
    ((with_reducible refine (markEntryS_b (pqL a0_0) A2_0_0 c2_0_0 1 _ o2_0_0v3 (by omega) (by omega)).mono ?_); rintro e w4 ⟨rfl, f4_0, hb4⟩)
    have s4 : w3.heap.size ≤ w4.heap.size := by have := hb4.size; simpa using this
    have B4 : Below w.heap.size w w4 := (B3).trans (hb4.below (by first | omega | (simp <;> omega)) (by first | omega | (simp <;> omega)))
    have o1_0_0v4 := (o1_0_0v3).fr hb4 (by first | omega | (simp <;> omega))
    clear o1_0_0v3
    go_wp2_with fail
    ((with_reducible refine (heldEntryS_b (pqL a0_0) A2_0_0 c2_0_0 1 _ ((f4_0).rd') (by omega) (by omega)).mono ?_); rintro e w5 ⟨rfl, hb5⟩)
    have s5 : w4.heap.size ≤ w5.heap.size := by have := hb5.size; simpa using this
    have B5 : Below w.heap.size w w5 := (B4).trans (hb5.mono (by first | omega | (simp <;> omega)))
    have o1_0_0v5 := (o1_0_0v4).st hb5
    have f4_0v5 := (f4_0).st hb5
    clear o1_0_0v4 f4_0
    go_wp2_with fail
    ((with_reducible refine (iParseLog_any a0_0 _   (by omega)  ((hS.st B5))).mono ?_); rintro e w6 ⟨A6_0_0, c6_0_0, rfl, o6_0_0, l6_0, hb6⟩)
    have s6 : w5.heap.size ≤ w6.heap.size := by have := hb6.size; simpa using this
    have B6 : Below w.heap.size w w6 := (B5).trans (hb6.mono (by first | omega | (simp <;> omega)))
    have o1_0_0v6 := (o1_0_0v5).st hb6
    have f4_0v6 := (f4_0v5).st hb6
    clear o1_0_0v5 f4_0v5
    go_wp2_with fail
    ((with_reducible refine (eqEntryS_b (pqL a0_0) A6_0_0 c6_0_0 (pqL a0_0) A1_0_0 c1_0_0 _ ((o6_0_0).rd') o1_0_0v6 (by omega) (by omega)).mono ?_); rintro e w7 ⟨rfl, hb7⟩)
    have s7 : w6.heap.size ≤ w7.heap.size := by have := hb7.size; simpa using this
    have B7 : Below w.heap.size w w7 := (B6).trans (hb7.mono (by first | omega | (simp <;> omega)))
    have o1_0_0v7 := (o1_0_0v6).st hb7
    have f4_0v7 := (f4_0v6).st hb7
    have o6_0_0v7 := (o6_0_0).st hb7
    clear o1_0_0v6 f4_0v6 o6_0_0
    go_wp2_with fail
    ((with_reducible refine (heldEntryS_b (pqL a0_0) A2_0_0 c2_0_0 1 _ ((f4_0v7).rd') (by omega) (by omega)).mono ?_); rintro e w8 ⟨rfl, hb8⟩)
    have s8 : w7.heap.size ≤ w8.heap.size := by have := hb8.size; simpa using this
    have B8 : Below w.heap.size w w8 := (B7).trans (hb8.mono (by first | omega | (simp <;> omega)))
    have o1_0_0v8 := (o1_0_0v7).st hb8
    have f4_0v8 := (f4_0v7).st hb8
    have o6_0_0v8 := (o6_0_0v7).st hb8
    clear o1_0_0v7 f4_0v7 o6_0_0v7
    go_wp2_with fail
    go_ret
    exact ⟨rfl, B8⟩
  · go_enter Tryd.func8, Tryd.ntmps8
    go_wp2_with fail
    go_ret
    exact ⟨rfl, (Below.refl w.heap.size w)⟩

end Go.Proofs.YtaoobcjannbnjaaDoor.fnExactParseLog
