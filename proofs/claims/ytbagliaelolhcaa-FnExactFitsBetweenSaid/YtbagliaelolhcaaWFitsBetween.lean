/-
  The walk through FnExactFitsBetween, call by call. Printed by a program of this claim's own. No conditions beyond the bounds of Go's slices.
-/
import Derived.Test.YtbagliaelolhcaaLawKit
import Derived.Test.YtbagliaelolhcaaFits
namespace Go.Proofs.Ytbagliaelolhcaa.fnExactFitsBetween
open Go.ChangeShapes Go.WideShapes Go.ChangeAt Go.RowKit
set_option linter.unusedVariables false

set_option maxRecDepth 100000 in
set_option maxHeartbeats 4000000 in
theorem walk (a0_0 : List Ent) (Aa0_0 : Option Addr) (ca0_0 : Nat) (a1_0 : List Ent) (Aa1_0 : Option Addr) (ca1_0 : Nat) (a2_0 : List Ent) (Aa2_0 : Option Addr) (ca2_0 : Nat) (a3_0 : Int) (a4_0 : Int) (w : World) (h0_0 : RdE w 0 w.heap.size Aa0_0 a0_0) (l0_0 : a0_0.length ≤ 9223372036854775807) (v0_0 : ∀ x ∈ a0_0, x.seen.length ≤ 9223372036854775807 ∧ x.shown.length ≤ 9223372036854775807) (h1_0 : RdE w 0 w.heap.size Aa1_0 a1_0) (l1_0 : a1_0.length ≤ 9223372036854775807) (v1_0 : ∀ x ∈ a1_0, x.seen.length ≤ 9223372036854775807 ∧ x.shown.length ≤ 9223372036854775807) (h2_0 : RdE w 0 w.heap.size Aa2_0 a2_0) (l2_0 : a2_0.length ≤ 9223372036854775807) (v2_0 : ∀ x ∈ a2_0, x.seen.length ≤ 9223372036854775807 ∧ x.shown.length ≤ 9223372036854775807) :
    Calls Try.prog 4 #[.slice Aa0_0 a0_0.length ca0_0, .slice Aa1_0 a1_0.length ca1_0, .slice Aa2_0 a2_0.length ca2_0, .int .i64 a3_0, .int .i64 a4_0] w fun e w' => e = .returned (.bool true) ∧ Below w.heap.size w w' := by
  by_cases z0 : eszL a0_0 ≤ 1048576
  · skip
    by_cases z1 : eszL a0_0 + eszL a1_0 ≤ 1048576
    · skip
      by_cases z2 : eszL a0_0 + eszL a1_0 + eszL a2_0 ≤ 1048576
      · skip
        go_enter Try.func4, Try.ntmps4
        go_wp2_with fail
        ((with_reducible refine (szEntryS_yes a0_0 Aa0_0 ca0_0 1048576 _ (by omega) h0_0 l0_0 v0_0 (by omega)).mono ?_); rintro e w1 ⟨rfl, hb1⟩)
        have s1 : w.heap.size ≤ w1.heap.size := by have := hb1.size; simpa using this
        have B1 : Below w.heap.size w w1 := ((Below.refl w.heap.size w)).trans (hb1.mono (by first | omega | (simp <;> omega)))
        go_wp2_with fail
        ((with_reducible refine (szEntryS_yes a1_0 Aa1_0 ca1_0 (1048576 - ((eszL a0_0 : Nat) : Int)) _ (by omega) (h1_0.below B1 (Nat.le_refl _)) l1_0 v1_0 (by omega)).mono ?_); rintro e w2 ⟨rfl, hb2⟩)
        have s2 : w1.heap.size ≤ w2.heap.size := by have := hb2.size; simpa using this
        have B2 : Below w.heap.size w w2 := (B1).trans (hb2.mono (by first | omega | (simp <;> omega)))
        go_wp2_with fail
        ((with_reducible refine (szEntryS_yes a2_0 Aa2_0 ca2_0 (1048576 - ((eszL a0_0 : Nat) : Int) - ((eszL a1_0 : Nat) : Int)) _ (by omega) (h2_0.below B2 (Nat.le_refl _)) l2_0 v2_0 (by omega)).mono ?_); rintro e w3 ⟨rfl, hb3⟩)
        have s3 : w2.heap.size ≤ w3.heap.size := by have := hb3.size; simpa using this
        have B3 : Below w.heap.size w w3 := (B2).trans (hb3.mono (by first | omega | (simp <;> omega)))
        go_wp2_with fail
        ((with_reducible refine (toEntryS_any a0_0 Aa0_0 ca0_0 _ ((h0_0.below B3 (Nat.le_refl _))) (by omega)).mono ?_); rintro e w4 ⟨A4_0, c4_0, rfl, o4_0, hb4⟩)
        have s4 : w3.heap.size ≤ w4.heap.size := by have := hb4.size; simpa using this
        have B4 : Below w.heap.size w w4 := (B3).trans (hb4.mono (by first | omega | (simp <;> omega)))
        go_wp2_with fail
        ((with_reducible refine (toEntryS_any a1_0 Aa1_0 ca1_0 _ ((h1_0.below B4 (Nat.le_refl _))) (by omega)).mono ?_); rintro e w5 ⟨A5_0, c5_0, rfl, o5_0, hb5⟩)
        have s5 : w4.heap.size ≤ w5.heap.size := by have := hb5.size; simpa using this
        have B5 : Below w.heap.size w w5 := (B4).trans (hb5.mono (by first | omega | (simp <;> omega)))
        have o4_0v5 := (o4_0).st hb5
        clear o4_0
        go_wp2_with fail
        ((with_reducible refine (toEntryS_any a2_0 Aa2_0 ca2_0 _ ((h2_0.below B5 (Nat.le_refl _))) (by omega)).mono ?_); rintro e w6 ⟨A6_0, c6_0, rfl, o6_0, hb6⟩)
        have s6 : w5.heap.size ≤ w6.heap.size := by have := hb6.size; simpa using this
        have B6 : Below w.heap.size w w6 := (B5).trans (hb6.mono (by first | omega | (simp <;> omega)))
        have o4_0v6 := (o4_0v5).st hb6
        have o5_0v6 := (o5_0).st hb6
        clear o4_0v5 o5_0
        go_wp2_with fail
        ((with_reducible refine (sFitsBetween_any a0_0 A4_0 c4_0 a1_0 A5_0 c5_0 a2_0 A6_0 c6_0 a3_0 a4_0 _ ((o4_0v6).rd') ((o5_0v6).rd') ((o6_0).rd') (by omega) (by omega) (by omega) ).mono ?_); rintro e w7 ⟨rfl, hb7⟩)
        have s7 : w6.heap.size ≤ w7.heap.size := by have := hb7.size; simpa using this
        have B7 : Below w.heap.size w w7 := (B6).trans (hb7.mono (by first | omega | (simp <;> omega)))
        have o4_0v7 := (o4_0v6).st hb7
        have o5_0v7 := (o5_0v6).st hb7
        have o6_0v7 := (o6_0).st hb7
        clear o4_0v6 o5_0v6 o6_0
        go_wp2_with fail
        ((with_reducible refine (toEntryS_any a0_0 Aa0_0 ca0_0 _ ((h0_0.below B7 (Nat.le_refl _))) (by omega)).mono ?_); rintro e w8 ⟨A8_0, c8_0, rfl, o8_0, hb8⟩)
        have s8 : w7.heap.size ≤ w8.heap.size := by have := hb8.size; simpa using this
        have B8 : Below w.heap.size w w8 := (B7).trans (hb8.mono (by first | omega | (simp <;> omega)))
        go_wp2_with fail
        ((with_reducible refine (toEntryS_any a1_0 Aa1_0 ca1_0 _ ((h1_0.below B8 (Nat.le_refl _))) (by omega)).mono ?_); rintro e w9 ⟨A9_0, c9_0, rfl, o9_0, hb9⟩)
        have s9 : w8.heap.size ≤ w9.heap.size := by have := hb9.size; simpa using this
        have B9 : Below w.heap.size w w9 := (B8).trans (hb9.mono (by first | omega | (simp <;> omega)))
        have o8_0v9 := (o8_0).st hb9
        clear o8_0
        go_wp2_with fail
        ((with_reducible refine (toEntryS_any a2_0 Aa2_0 ca2_0 _ ((h2_0.below B9 (Nat.le_refl _))) (by omega)).mono ?_); rintro e w10 ⟨A10_0, c10_0, rfl, o10_0, hb10⟩)
        have s10 : w9.heap.size ≤ w10.heap.size := by have := hb10.size; simpa using this
        have B10 : Below w.heap.size w w10 := (B9).trans (hb10.mono (by first | omega | (simp <;> omega)))
        have o8_0v10 := (o8_0v9).st hb10
        have o9_0v10 := (o9_0).st hb10
        clear o8_0v9 o9_0
        go_wp2_with fail
        ((with_reducible refine (iFitsBetween_any a0_0 A8_0 c8_0 a1_0 A9_0 c9_0 a2_0 A10_0 c10_0 a3_0 a4_0 _ ((o8_0v10).rd') ((o9_0v10).rd') ((o10_0).rd') (by omega) (by omega) (by omega) (o8_0v10).cap (o9_0v10).cap (o10_0).cap).mono ?_); rintro e w11 ⟨rfl, hb11⟩)
        have s11 : w10.heap.size ≤ w11.heap.size := by have := hb11.size; simpa using this
        have B11 : Below w.heap.size w w11 := (B10).trans (hb11.mono (by first | omega | (simp <;> omega)))
        have o8_0v11 := (o8_0v10).st hb11
        have o9_0v11 := (o9_0v10).st hb11
        have o10_0v11 := (o10_0).st hb11
        clear o8_0v10 o9_0v10 o10_0
        go_wp2_with fail
        ((with_reducible refine (toEntryS_any a0_0 Aa0_0 ca0_0 _ ((h0_0.below B11 (Nat.le_refl _))) (by omega)).mono ?_); rintro e w12 ⟨A12_0, c12_0, rfl, o12_0, hb12⟩)
        have s12 : w11.heap.size ≤ w12.heap.size := by have := hb12.size; simpa using this
        have B12 : Below w.heap.size w w12 := (B11).trans (hb12.mono (by first | omega | (simp <;> omega)))
        have o8_0v12 := (o8_0v11).st hb12
        have o9_0v12 := (o9_0v11).st hb12
        have o10_0v12 := (o10_0v11).st hb12
        clear o8_0v11 o9_0v11 o10_0v11
        go_wp2_with fail
        ((with_reducible refine (eqEntryS_b a0_0 A8_0 c8_0 a0_0 A12_0 c12_0 _ ((o8_0v12).rd') ((o12_0).rd') (by omega) (by omega)).mono ?_); rintro e w13 ⟨rfl, hb13⟩)
        have s13 : w12.heap.size ≤ w13.heap.size := by have := hb13.size; simpa using this
        have B13 : Below w.heap.size w w13 := (B12).trans (hb13.mono (by first | omega | (simp <;> omega)))
        have o8_0v13 := (o8_0v12).st hb13
        have o9_0v13 := (o9_0v12).st hb13
        have o10_0v13 := (o10_0v12).st hb13
        have o12_0v13 := (o12_0).st hb13
        clear o8_0v12 o9_0v12 o10_0v12 o12_0
        go_wp2_with fail
        ((with_reducible refine (toEntryS_any a1_0 Aa1_0 ca1_0 _ ((h1_0.below B13 (Nat.le_refl _))) (by omega)).mono ?_); rintro e w14 ⟨A14_0, c14_0, rfl, o14_0, hb14⟩)
        have s14 : w13.heap.size ≤ w14.heap.size := by have := hb14.size; simpa using this
        have B14 : Below w.heap.size w w14 := (B13).trans (hb14.mono (by first | omega | (simp <;> omega)))
        have o8_0v14 := (o8_0v13).st hb14
        have o9_0v14 := (o9_0v13).st hb14
        have o10_0v14 := (o10_0v13).st hb14
        clear o8_0v13 o9_0v13 o10_0v13
        go_wp2_with fail
        ((with_reducible refine (eqEntryS_b a1_0 A9_0 c9_0 a1_0 A14_0 c14_0 _ ((o9_0v14).rd') ((o14_0).rd') (by omega) (by omega)).mono ?_); rintro e w15 ⟨rfl, hb15⟩)
        have s15 : w14.heap.size ≤ w15.heap.size := by have := hb15.size; simpa using this
        have B15 : Below w.heap.size w w15 := (B14).trans (hb15.mono (by first | omega | (simp <;> omega)))
        have o8_0v15 := (o8_0v14).st hb15
        have o9_0v15 := (o9_0v14).st hb15
        have o10_0v15 := (o10_0v14).st hb15
        have o14_0v15 := (o14_0).st hb15
        clear o8_0v14 o9_0v14 o10_0v14 o14_0
        go_wp2_with fail
        ((with_reducible refine (toEntryS_any a2_0 Aa2_0 ca2_0 _ ((h2_0.below B15 (Nat.le_refl _))) (by omega)).mono ?_); rintro e w16 ⟨A16_0, c16_0, rfl, o16_0, hb16⟩)
        have s16 : w15.heap.size ≤ w16.heap.size := by have := hb16.size; simpa using this
        have B16 : Below w.heap.size w w16 := (B15).trans (hb16.mono (by first | omega | (simp <;> omega)))
        have o8_0v16 := (o8_0v15).st hb16
        have o9_0v16 := (o9_0v15).st hb16
        have o10_0v16 := (o10_0v15).st hb16
        clear o8_0v15 o9_0v15 o10_0v15
        go_wp2_with fail
        ((with_reducible refine (eqEntryS_b a2_0 A10_0 c10_0 a2_0 A16_0 c16_0 _ ((o10_0v16).rd') ((o16_0).rd') (by omega) (by omega)).mono ?_); rintro e w17 ⟨rfl, hb17⟩)
        have s17 : w16.heap.size ≤ w17.heap.size := by have := hb17.size; simpa using this
        have B17 : Below w.heap.size w w17 := (B16).trans (hb17.mono (by first | omega | (simp <;> omega)))
        have o8_0v17 := (o8_0v16).st hb17
        have o9_0v17 := (o9_0v16).st hb17
        have o10_0v17 := (o10_0v16).st hb17
        have o16_0v17 := (o16_0).st hb17
        clear o8_0v16 o9_0v16 o10_0v16 o16_0
        go_wp2_with fail
        go_ret
        exact ⟨rfl, B17⟩
      · go_enter Try.func4, Try.ntmps4
        go_wp2_with fail
        ((with_reducible refine (szEntryS_yes a0_0 Aa0_0 ca0_0 1048576 _ (by omega) h0_0 l0_0 v0_0 (by omega)).mono ?_); rintro e w1 ⟨rfl, hb1⟩)
        have s1 : w.heap.size ≤ w1.heap.size := by have := hb1.size; simpa using this
        have B1 : Below w.heap.size w w1 := ((Below.refl w.heap.size w)).trans (hb1.mono (by first | omega | (simp <;> omega)))
        go_wp2_with fail
        ((with_reducible refine (szEntryS_yes a1_0 Aa1_0 ca1_0 (1048576 - ((eszL a0_0 : Nat) : Int)) _ (by omega) (h1_0.below B1 (Nat.le_refl _)) l1_0 v1_0 (by omega)).mono ?_); rintro e w2 ⟨rfl, hb2⟩)
        have s2 : w1.heap.size ≤ w2.heap.size := by have := hb2.size; simpa using this
        have B2 : Below w.heap.size w w2 := (B1).trans (hb2.mono (by first | omega | (simp <;> omega)))
        go_wp2_with fail
        ((with_reducible refine (szEntryS_no a2_0 Aa2_0 ca2_0 (1048576 - ((eszL a0_0 : Nat) : Int) - ((eszL a1_0 : Nat) : Int)) _ (by omega) (h2_0.below B2 (Nat.le_refl _)) l2_0 v2_0 (by omega)).mono ?_); rintro e w3 ⟨rfl, hb3⟩)
        have s3 : w2.heap.size ≤ w3.heap.size := by have := hb3.size; simpa using this
        have B3 : Below w.heap.size w w3 := (B2).trans (hb3.mono (by first | omega | (simp <;> omega)))
        go_wp2_with fail
        go_ret
        exact ⟨rfl, B3⟩
    · go_enter Try.func4, Try.ntmps4
      go_wp2_with fail
      ((with_reducible refine (szEntryS_yes a0_0 Aa0_0 ca0_0 1048576 _ (by omega) h0_0 l0_0 v0_0 (by omega)).mono ?_); rintro e w1 ⟨rfl, hb1⟩)
      have s1 : w.heap.size ≤ w1.heap.size := by have := hb1.size; simpa using this
      have B1 : Below w.heap.size w w1 := ((Below.refl w.heap.size w)).trans (hb1.mono (by first | omega | (simp <;> omega)))
      go_wp2_with fail
      ((with_reducible refine (szEntryS_no a1_0 Aa1_0 ca1_0 (1048576 - ((eszL a0_0 : Nat) : Int)) _ (by omega) (h1_0.below B1 (Nat.le_refl _)) l1_0 v1_0 (by omega)).mono ?_); rintro e w2 ⟨rfl, hb2⟩)
      have s2 : w1.heap.size ≤ w2.heap.size := by have := hb2.size; simpa using this
      have B2 : Below w.heap.size w w2 := (B1).trans (hb2.mono (by first | omega | (simp <;> omega)))
      go_wp2_with fail
      go_ret
      exact ⟨rfl, B2⟩
  · go_enter Try.func4, Try.ntmps4
    go_wp2_with fail
    ((with_reducible refine (szEntryS_no a0_0 Aa0_0 ca0_0 1048576 _ (by omega) h0_0 l0_0 v0_0 (by omega)).mono ?_); rintro e w1 ⟨rfl, hb1⟩)
    have s1 : w.heap.size ≤ w1.heap.size := by have := hb1.size; simpa using this
    have B1 : Below w.heap.size w w1 := ((Below.refl w.heap.size w)).trans (hb1.mono (by first | omega | (simp <;> omega)))
    go_wp2_with fail
    go_ret
    exact ⟨rfl, B1⟩

end Go.Proofs.Ytbagliaelolhcaa.fnExactFitsBetween
