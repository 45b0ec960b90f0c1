/-
  The walk through FnExactLogText, call by call. Printed by a program of this claim's own. No conditions beyond the bounds of Go's slices.
-/
import Derived.Test.YtaoobcjannbnjaaDoorLawKit
import Derived.Test.YtaoobcjannbnjaaDoorLgText
namespace Go.Proofs.YtaoobcjannbnjaaDoor.fnExactLogText
open Go.ChangeShapes Go.WideShapes Go.ChangeAt Go.RowKit
set_option linter.unusedVariables false

set_option maxRecDepth 100000 in
set_option maxHeartbeats 4000000 in
theorem walk (a0_0 : List Ent) (Aa0_0 : Option Addr) (ca0_0 : Nat) (w : World) (h0_0 : RdE w 0 w.heap.size Aa0_0 a0_0) (l0_0 : a0_0.length ≤ 9223372036854775807) (v0_0 : ∀ x ∈ a0_0, x.seen.length ≤ 9223372036854775807 ∧ x.shown.length ≤ 9223372036854775807) (hP : Pow w) :
    Calls Tryd.prog 5 #[.slice Aa0_0 a0_0.length ca0_0] w fun e w' => e = .returned (.bool true) ∧ Below w.heap.size w w' := by
  by_cases z0 : eszL a0_0 ≤ 1048576
  · skip
    go_enter Tryd.func5, Tryd.ntmps5
    go_wp2_with fail
    ((with_reducible refine (szEntryS_yes a0_0 Aa0_0 ca0_0 1048576 _ (by omega) h0_0 l0_0 v0_0 (by omega)).mono ?_); rintro e w1 ⟨rfl, hb1⟩)
    have s1 : w.heap.size ≤ w1.heap.size := by have := hb1.size; simpa using this
    have B1 : Below w.heap.size w w1 := ((Below.refl w.heap.size w)).trans (hb1.mono (by first | omega | (simp <;> omega)))
    go_wp2_with fail
    ((with_reducible refine (toEntryS_any a0_0 Aa0_0 ca0_0 _ ((h0_0.below B1 (Nat.le_refl _))) (by omega)).mono ?_); rintro e w2 ⟨A2_0, c2_0, rfl, o2_0, hb2⟩)
    have s2 : w1.heap.size ≤ w2.heap.size := by have := hb2.size; simpa using this
    have B2 : Below w.heap.size w w2 := (B1).trans (hb2.mono (by first | omega | (simp <;> omega)))
    go_wp2_with fail
    ((with_reducible refine (sLogText_any a0_0 A2_0 c2_0 _ ((o2_0).rd') (by omega) ).mono ?_); rintro e w3 ⟨rfl, hb3⟩)
    have s3 : w2.heap.size ≤ w3.heap.size := by have := hb3.size; simpa using this
    have B3 : Below w.heap.size w w3 := (B2).trans (hb3.mono (by first | omega | (simp <;> omega)))
    have o2_0v3 := (o2_0).st hb3
    clear o2_0
    go_wp2_with fail
    ((with_reducible refine (toEntryS_any a0_0 Aa0_0 ca0_0 _ ((h0_0.below B3 (Nat.le_refl _))) (by omega)).mono ?_); rintro e w4 ⟨A4_0, c4_0, rfl, o4_0, hb4⟩)
    have s4 : w3.heap.size ≤ w4.heap.size := by have := hb4.size; simpa using this
    have B4 : Below w.heap.size w w4 := (B3).trans (hb4.mono (by first | omega | (simp <;> omega)))
    go_wp2_with fail
    ((with_reducible refine (iLogText_any a0_0 A4_0 c4_0 _ ((o4_0).rd') (by omega) (o4_0).cap ((hP.below B4 hP.lt))).mono ?_); rintro e w5 ⟨rfl, hb5⟩)
    have s5 : w4.heap.size ≤ w5.heap.size := by have := hb5.size; simpa using this
    have B5 : Below w.heap.size w w5 := (B4).trans (hb5.mono (by first | omega | (simp <;> omega)))
    have o4_0v5 := (o4_0).st hb5
    clear o4_0
    go_wp2_with fail
    ((with_reducible refine (toEntryS_any a0_0 Aa0_0 ca0_0 _ ((h0_0.below B5 (Nat.le_refl _))) (by omega)).mono ?_); rintro e w6 ⟨A6_0, c6_0, rfl, o6_0, hb6⟩)
    have s6 : w5.heap.size ≤ w6.heap.size := by have := hb6.size; simpa using this
    have B6 : Below w.heap.size w w6 := (B5).trans (hb6.mono (by first | omega | (simp <;> omega)))
    have o4_0v6 := (o4_0v5).st hb6
    clear o4_0v5
    go_wp2_with fail
    ((with_reducible refine (eqEntryS_b a0_0 A4_0 c4_0 a0_0 A6_0 c6_0 _ ((o4_0v6).rd') ((o6_0).rd') (by omega) (by omega)).mono ?_); rintro e w7 ⟨rfl, hb7⟩)
    have s7 : w6.heap.size ≤ w7.heap.size := by have := hb7.size; simpa using this
    have B7 : Below w.heap.size w w7 := (B6).trans (hb7.mono (by first | omega | (simp <;> omega)))
    have o4_0v7 := (o4_0v6).st hb7
    have o6_0v7 := (o6_0).st hb7
    clear o4_0v6 o6_0
    go_wp2_with fail
    go_ret
    exact ⟨rfl, B7⟩
  · go_enter Tryd.func5, Tryd.ntmps5
    go_wp2_with fail
    ((with_reducible refine (szEntryS_no a0_0 Aa0_0 ca0_0 1048576 _ (by omega) h0_0 l0_0 v0_0 (by omega)).mono ?_); rintro e w1 ⟨rfl, hb1⟩)
    have s1 : w.heap.size ≤ w1.heap.size := by have := hb1.size; simpa using this
    have B1 : Below w.heap.size w w1 := ((Below.refl w.heap.size w)).trans (hb1.mono (by first | omega | (simp <;> omega)))
    go_wp2_with fail
    go_ret
    exact ⟨rfl, B1⟩

end Go.Proofs.YtaoobcjannbnjaaDoor.fnExactLogText
