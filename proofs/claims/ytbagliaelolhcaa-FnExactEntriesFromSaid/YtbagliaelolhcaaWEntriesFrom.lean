/-
  The walk through FnExactEntriesFrom, call by call. Printed by a program of this claim's own. No conditions beyond the bounds of Go's slices.
-/
import Derived.Test.YtbagliaelolhcaaLawKit
import Derived.Test.YtbagliaelolhcaaFrom
import Derived.Test.YtbagliaelolhcaaMarkR
import Derived.Test.YtbagliaelolhcaaMarkH
namespace Go.Proofs.Ytbagliaelolhcaa.fnExactEntriesFrom
open Go.ChangeShapes Go.WideShapes Go.ChangeAt Go.RowKit
set_option linter.unusedVariables false

set_option maxRecDepth 100000 in
set_option maxHeartbeats 4000000 in
theorem walk (a0_0 : List Ent) (Aa0_0 : Option Addr) (ca0_0 : Nat) (a1_0 : Int) (a2_0 : Int) (w : World) (h0_0 : RdE w 0 w.heap.size Aa0_0 a0_0) (l0_0 : a0_0.length ≤ 9223372036854775807) (v0_0 : ∀ x ∈ a0_0, x.seen.length ≤ 9223372036854775807 ∧ x.shown.length ≤ 9223372036854775807) :
    Calls Try.prog 5 #[.slice Aa0_0 a0_0.length ca0_0, .int .i64 a1_0, .int .i64 a2_0] w fun e w' => e = .returned (.bool true) ∧ Below w.heap.size w w' := by
  by_cases z0 : eszL a0_0 ≤ 1048576
  · skip
    go_enter Try.func5, Try.ntmps5
    go_wp2_with fail
    ((with_reducible refine (szEntryS_yes a0_0 Aa0_0 ca0_0 1048576 _ (by omega) h0_0 l0_0 v0_0 (by omega)).mono ?_); rintro e w1 ⟨rfl, hb1⟩)
    have s1 : w.heap.size ≤ w1.heap.size := by have := hb1.size; simpa using this
    have B1 : Below w.heap.size w w1 := ((Below.refl w.heap.size w)).trans (hb1.mono (by first | omega | (simp <;> omega)))
    go_wp2_with fail
    ((with_reducible refine (toEntryS_any a0_0 Aa0_0 ca0_0 _ ((h0_0.below B1 (Nat.le_refl _))) (by omega)).mono ?_); rintro e w2 ⟨A2_0, c2_0, rfl, o2_0, hb2⟩)
    have s2 : w1.heap.size ≤ w2.heap.size := by have := hb2.size; simpa using this
    have B2 : Below w.heap.size w w2 := (B1).trans (hb2.mono (by first | omega | (simp <;> omega)))
    go_wp2_with fail
    ((with_reducible refine (sEntriesFrom_any a0_0 A2_0 c2_0 a1_0 a2_0 _ ((o2_0).rd') (by omega) ).mono ?_); rintro e w3 ⟨A3_0_0, c3_0_0, rfl, o3_0_0, l3_0, hb3⟩)
    have s3 : w2.heap.size ≤ w3.heap.size := by have := hb3.size; simpa using this
    have B3 : Below w.heap.size w w3 := (B2).trans (hb3.mono (by first | omega | (simp <;> omega)))
    have o2_0v3 := (o2_0).st hb3
    clear o2_0
    go_wp2_with fail
    ((with_reducible refine (toEntryS_any a0_0 Aa0_0 ca0_0 _ ((h0_0.below B3 (Nat.le_refl _))) (by omega)).mono ?_); rintro e w4 ⟨A4_0, c4_0, rfl, o4_0, hb4⟩)
    have s4 : w3.heap.size ≤ w4.heap.size := by have := hb4.size; simpa using this
    have B4 : Below w.heap.size w w4 := (B3).trans (hb4.mono (by first | omega | (simp <;> omega)))
    have o3_0_0v4 := (o3_0_0).st hb4
    clear o3_0_0
    go_wp2_with fail
    ((with_reducible refine (iEntriesFrom_any a0_0 A4_0 c4_0 a1_0 a2_0 _ ((o4_0).rd') (by omega) (o4_0).cap).mono ?_); rintro e w5 ⟨A5_0_0, c5_0_0, rfl, o5_0_0, l5_0, hb5⟩)
    have s5 : w4.heap.size ≤ w5.heap.size := by have := hb5.size; simpa using this
    have B5 : Below w.heap.size w w5 := (B4).trans (hb5.mono (by first | omega | (simp <;> omega)))
    have o3_0_0v5 := (o3_0_0v4).st hb5
    have o4_0v5 := (o4_0).st hb5
    clear o3_0_0v4 o4_0
    go_wp2_with fail
    ((with_reducible refine (eqEntryS_b (efL a0_0 a1_0 a2_0) A5_0_0 c5_0_0 (efL a0_0 a1_0 a2_0) A3_0_0 c3_0_0 _ ((o5_0_0).rd') o3_0_0v5 (by omega) (by omega)).mono ?_); rintro e w6 ⟨rfl, hb6⟩)
    have s6 : w5.heap.size ≤ w6.heap.size := by have := hb6.size; simpa using this
    have B6 : Below w.heap.size w w6 := (B5).trans (hb6.mono (by first | omega | (simp <;> omega)))
    have o3_0_0v6 := (o3_0_0v5).st hb6
    have o4_0v6 := (o4_0v5).st hb6
    have o5_0_0v6 := (o5_0_0).st hb6
    clear o3_0_0v5 o4_0v5 o5_0_0
    go_wp2_with fail
    ((with_reducible refine (toEntryS_any a0_0 Aa0_0 ca0_0 _ ((h0_0.below B6 (Nat.le_refl _))) (by omega)).mono ?_); rintro e w7 ⟨A7_0, c7_0, rfl, o7_0, hb7⟩)
    have s7 : w6.heap.size ≤ w7.heap.size := by have := hb7.size; simpa using this
    have B7 : Below w.heap.size w w7 := (B6).trans (hb7.mono (by first | omega | (simp <;> omega)))
    have o3_0_0v7 := (o3_0_0v6).st hb7
    have o4_0v7 := (o4_0v6).st hb7
    have o5_0_0v7 := (o5_0_0v6).st hb7
    clear o3_0_0v6 o4_0v6 o5_0_0v6
    go_wp2_with fail
    ((with_reducible refine (eqEntryS_b a0_0 A4_0 c4_0 a0_0 A7_0 c7_0 _ ((o4_0v7).rd') ((o7_0).rd') (by omega) (by omega)).mono ?_); rintro e w8 ⟨rfl, hb8⟩)
    have s8 : w7.heap.size ≤ w8.heap.size := by have := hb8.size; simpa using this
    have B8 : Below w.heap.size w w8 := (B7).trans (hb8.mono (by first | omega | (simp <;> omega)))
    have o3_0_0v8 := (o3_0_0v7).st hb8
    have o4_0v8 := (o4_0v7).st hb8
    have o5_0_0v8 := (o5_0_0v7).st hb8
    have o7_0v8 := (o7_0).st hb8
    clear o3_0_0v7 o4_0v7 o5_0_0v7 o7_0
    go_wp2_with fail
    ((with_reducible refine (markEntryS_r a0_0 A4_0 c4_0 1 _ o4_0v8 (by omega) (by omega)).mono ?_); rintro e w9 ⟨r9, rfl, g9, G9, hb9⟩)
    have s9 : w8.heap.size ≤ w9.heap.size := by have := hb9.size; simpa using this
    have B9 : Below w.heap.size w w9 := (B8).trans (hb9.below (by first | omega | (simp <;> omega)) (by first | omega | (simp <;> omega)))
    have o3_0_0v9 := (o3_0_0v8).fr hb9 (by first | omega | (simp <;> omega))
    have o5_0_0v9 := (o5_0_0v8).fr hb9 (by first | omega | (simp <;> omega))
    clear o3_0_0v8 o5_0_0v8
    go_wp2_with fail
    ((with_reducible refine (eqEntryS_b (efL a0_0 a1_0 a2_0) A5_0_0 c5_0_0 (efL a0_0 a1_0 a2_0) A3_0_0 c3_0_0 _ ((o5_0_0v9).rd') o3_0_0v9 (by omega) (by omega)).mono ?_); rintro e w10 ⟨rfl, hb10⟩)
    have s10 : w9.heap.size ≤ w10.heap.size := by have := hb10.size; simpa using this
    have B10 : Below w.heap.size w w10 := (B9).trans (hb10.mono (by first | omega | (simp <;> omega)))
    have o3_0_0v10 := (o3_0_0v9).st hb10
    have o5_0_0v10 := (o5_0_0v9).st hb10
    clear o3_0_0v9 o5_0_0v9
    go_wp2_with fail
    ((with_reducible refine (markEntryS_b (efL a0_0 a1_0 a2_0) A5_0_0 c5_0_0 1 _ o5_0_0v10 (by omega) (by omega)).mono ?_); rintro e w11 ⟨rfl, f11_0, hb11⟩)
    have s11 : w10.heap.size ≤ w11.heap.size := by have := hb11.size; simpa using this
    have B11 : Below w.heap.size w w11 := (B10).trans (hb11.below (by first | omega | (simp <;> omega)) (by first | omega | (simp <;> omega)))
    have o3_0_0v11 := (o3_0_0v10).fr hb11 (by first | omega | (simp <;> omega))
    clear o3_0_0v10
    go_wp2_with fail
    ((with_reducible refine (heldEntryS_b (efL a0_0 a1_0 a2_0) A5_0_0 c5_0_0 1 _ ((f11_0).rd') (by omega) (by omega)).mono ?_); rintro e w12 ⟨rfl, hb12⟩)
    have s12 : w11.heap.size ≤ w12.heap.size := by have := hb12.size; simpa using this
    have B12 : Below w.heap.size w w12 := (B11).trans (hb12.mono (by first | omega | (simp <;> omega)))
    have o3_0_0v12 := (o3_0_0v11).st hb12
    have f11_0v12 := (f11_0).st hb12
    clear o3_0_0v11 f11_0
    go_wp2_with fail
    ((with_reducible refine (toEntryS_any a0_0 Aa0_0 ca0_0 _ ((h0_0.below B12 (Nat.le_refl _))) (by omega)).mono ?_); rintro e w13 ⟨A13_0, c13_0, rfl, o13_0, hb13⟩)
    have s13 : w12.heap.size ≤ w13.heap.size := by have := hb13.size; simpa using this
    have B13 : Below w.heap.size w w13 := (B12).trans (hb13.mono (by first | omega | (simp <;> omega)))
    have o3_0_0v13 := (o3_0_0v12).st hb13
    have f11_0v13 := (f11_0v12).st hb13
    clear o3_0_0v12 f11_0v12
    go_wp2_with fail
    ((with_reducible refine (iEntriesFrom_any a0_0 A13_0 c13_0 a1_0 a2_0 _ ((o13_0).rd') (by omega) (o13_0).cap).mono ?_); rintro e w14 ⟨A14_0_0, c14_0_0, rfl, o14_0_0, l14_0, hb14⟩)
    have s14 : w13.heap.size ≤ w14.heap.size := by have := hb14.size; simpa using this
    have B14 : Below w.heap.size w w14 := (B13).trans (hb14.mono (by first | omega | (simp <;> omega)))
    have o3_0_0v14 := (o3_0_0v13).st hb14
    have f11_0v14 := (f11_0v13).st hb14
    have o13_0v14 := (o13_0).st hb14
    clear o3_0_0v13 f11_0v13 o13_0
    go_wp2_with fail
    ((with_reducible refine (eqEntryS_b (efL a0_0 a1_0 a2_0) A14_0_0 c14_0_0 (efL a0_0 a1_0 a2_0) A3_0_0 c3_0_0 _ ((o14_0_0).rd') o3_0_0v14 (by omega) (by omega)).mono ?_); rintro e w15 ⟨rfl, hb15⟩)
    have s15 : w14.heap.size ≤ w15.heap.size := by have := hb15.size; simpa using this
    have B15 : Below w.heap.size w w15 := (B14).trans (hb15.mono (by first | omega | (simp <;> omega)))
    have o3_0_0v15 := (o3_0_0v14).st hb15
    have f11_0v15 := (f11_0v14).st hb15
    have o14_0_0v15 := (o14_0_0).st hb15
    clear o3_0_0v14 f11_0v14 o14_0_0
    go_wp2_with fail
    ((with_reducible refine (heldEntryS_b (efL a0_0 a1_0 a2_0) A5_0_0 c5_0_0 1 _ ((f11_0v15).rd') (by omega) (by omega)).mono ?_); rintro e w16 ⟨rfl, hb16⟩)
    have s16 : w15.heap.size ≤ w16.heap.size := by have := hb16.size; simpa using this
    have B16 : Below w.heap.size w w16 := (B15).trans (hb16.mono (by first | omega | (simp <;> omega)))
    have o3_0_0v16 := (o3_0_0v15).st hb16
    have f11_0v16 := (f11_0v15).st hb16
    have o14_0_0v16 := (o14_0_0v15).st hb16
    clear o3_0_0v15 f11_0v15 o14_0_0v15
    go_wp2_with fail
    go_ret
    exact ⟨rfl, B16⟩
  · go_enter Try.func5, Try.ntmps5
    go_wp2_with fail
    ((with_reducible refine (szEntryS_no a0_0 Aa0_0 ca0_0 1048576 _ (by omega) h0_0 l0_0 v0_0 (by omega)).mono ?_); rintro e w1 ⟨rfl, hb1⟩)
    have s1 : w.heap.size ≤ w1.heap.size := by have := hb1.size; simpa using this
    have B1 : Below w.heap.size w w1 := ((Below.refl w.heap.size w)).trans (hb1.mono (by first | omega | (simp <;> omega)))
    go_wp2_with fail
    go_ret
    exact ⟨rfl, B1⟩

end Go.Proofs.Ytbagliaelolhcaa.fnExactEntriesFrom
