/-
  The walk through FnExactJoinLogs, call by call. Printed by a program of this claim's own. No conditions beyond the bounds of Go's slices.
-/
import Derived.Test.YteajjbfecpffeaaLawKit
import Derived.Test.YteajjbfecpffeaaJoinI
import Derived.Test.YteajjbfecpffeaaJoinS
import Derived.Test.YteajjbfecpffeaaMarkR
import Derived.Test.YteajjbfecpffeaaMarkH
namespace Go.Proofs.Yteajjbfecpffeaa.fnExactJoinLogs
open Go.ChangeShapes Go.WideShapes Go.ChangeAt Go.RowKit
set_option linter.unusedVariables false

set_option maxRecDepth 100000 in
set_option maxHeartbeats 4000000 in
theorem walk (a0_0 : List Ent) (Aa0_0 : Option Addr) (ca0_0 : Nat) (a1_0 : List Ent) (Aa1_0 : Option Addr) (ca1_0 : Nat) (w : World) (h0_0 : RdE w 0 w.heap.size Aa0_0 a0_0) (l0_0 : a0_0.length ≤ 9223372036854775807) (v0_0 : ∀ x ∈ a0_0, x.seen.length ≤ 9223372036854775807 ∧ x.shown.length ≤ 9223372036854775807) (h1_0 : RdE w 0 w.heap.size Aa1_0 a1_0) (l1_0 : a1_0.length ≤ 9223372036854775807) (v1_0 : ∀ x ∈ a1_0, x.seen.length ≤ 9223372036854775807 ∧ x.shown.length ≤ 9223372036854775807) :
    Calls Try.prog 3 #[.slice Aa0_0 a0_0.length ca0_0, .slice Aa1_0 a1_0.length ca1_0] w fun e w' => e = .returned (.bool true) ∧ Below w.heap.size w w' := by
  by_cases z0 : eszL a0_0 ≤ 1048576
  · skip
    by_cases z1 : eszL a0_0 + eszL a1_0 ≤ 1048576
    · skip
      go_enter Try.func3, Try.ntmps3
      go_wp2_with fail
      ((with_reducible refine (szEntryS_yes a0_0 Aa0_0 ca0_0 1048576 _ (by omega) h0_0 l0_0 v0_0 (by omega)).mono ?_); rintro e w1 ⟨rfl, hb1⟩)
      have s1 : w.heap.size ≤ w1.heap.size := by have := hb1.size; simpa using this
      have B1 : Below w.heap.size w w1 := ((Below.refl w.heap.size w)).trans (hb1.mono (by first | omega | (simp <;> omega)))
      go_wp2_with fail
      ((with_reducible refine (szEntryS_yes a1_0 Aa1_0 ca1_0 (1048576 - ((eszL a0_0 : Nat) : Int)) _ (by omega) ((h1_0.below B1 (Nat.le_refl _))) l1_0 v1_0 (by omega)).mono ?_); rintro e w2 ⟨rfl, hb2⟩)
      have s2 : w1.heap.size ≤ w2.heap.size := by have := hb2.size; simpa using this
      have B2 : Below w.heap.size w w2 := (B1).trans (hb2.mono (by first | omega | (simp <;> omega)))
      go_wp2_with fail
      ((with_reducible refine (toEntryS_any a0_0 Aa0_0 ca0_0 _ ((h0_0.below B2 (Nat.le_refl _))) (by omega)).mono ?_); rintro e w3 ⟨A3_0, c3_0, rfl, o3_0, hb3⟩)
      have s3 : w2.heap.size ≤ w3.heap.size := by have := hb3.size; simpa using this
      have B3 : Below w.heap.size w w3 := (B2).trans (hb3.mono (by first | omega | (simp <;> omega)))
      go_wp2_with fail
      ((with_reducible refine (toEntryS_any a1_0 Aa1_0 ca1_0 _ ((h1_0.below B3 (Nat.le_refl _))) (by omega)).mono ?_); rintro e w4 ⟨A4_0, c4_0, rfl, o4_0, hb4⟩)
      have s4 : w3.heap.size ≤ w4.heap.size := by have := hb4.size; simpa using this
      have B4 : Below w.heap.size w w4 := (B3).trans (hb4.mono (by first | omega | (simp <;> omega)))
      have o3_0v4 := (o3_0).st hb4
      clear o3_0
      go_wp2_with fail
      ((with_reducible refine (sJoinLogs_any a0_0 A3_0 c3_0 a1_0 A4_0 c4_0 _ ((o3_0v4).rd') ((o4_0).rd') (by omega) (by omega) (o3_0v4).cap (o4_0).cap).mono ?_); rintro e w5 ⟨A5_0_0, c5_0_0, rfl, o5_0_0, l5_0, hb5⟩)
      have s5 : w4.heap.size ≤ w5.heap.size := by have := hb5.size; simpa using this
      have B5 : Below w.heap.size w w5 := (B4).trans (hb5.mono (by first | omega | (simp <;> omega)))
      have o3_0v5 := (o3_0v4).st hb5
      have o4_0v5 := (o4_0).st hb5
      clear o3_0v4 o4_0
      go_wp2_with fail
      ((with_reducible refine (toEntryS_any a0_0 Aa0_0 ca0_0 _ ((h0_0.below B5 (Nat.le_refl _))) (by omega)).mono ?_); rintro e w6 ⟨A6_0, c6_0, rfl, o6_0, hb6⟩)
      have s6 : w5.heap.size ≤ w6.heap.size := by have := hb6.size; simpa using this
      have B6 : Below w.heap.size w w6 := (B5).trans (hb6.mono (by first | omega | (simp <;> omega)))
      have o5_0_0v6 := (o5_0_0).st hb6
      clear o5_0_0
      go_wp2_with fail
      ((with_reducible refine (toEntryS_any a1_0 Aa1_0 ca1_0 _ ((h1_0.below B6 (Nat.le_refl _))) (by omega)).mono ?_); rintro e w7 ⟨A7_0, c7_0, rfl, o7_0, hb7⟩)
      have s7 : w6.heap.size ≤ w7.heap.size := by have := hb7.size; simpa using this
      have B7 : Below w.heap.size w w7 := (B6).trans (hb7.mono (by first | omega | (simp <;> omega)))
      have o5_0_0v7 := (o5_0_0v6).st hb7
      have o6_0v7 := (o6_0).st hb7
      clear o5_0_0v6 o6_0
      go_wp2_with fail
      ((with_reducible refine (iJoinLogs_any a0_0 A6_0 c6_0 a1_0 A7_0 c7_0 _ ((o6_0v7).rd') ((o7_0).rd') (by omega) (by omega) (o6_0v7).cap (o7_0).cap).mono ?_); rintro e w8 ⟨A8_0_0, c8_0_0, rfl, o8_0_0, l8_0, hb8⟩)
      have s8 : w7.heap.size ≤ w8.heap.size := by have := hb8.size; simpa using this
      have B8 : Below w.heap.size w w8 := (B7).trans (hb8.mono (by first | omega | (simp <;> omega)))
      have o5_0_0v8 := (o5_0_0v7).st hb8
      have o6_0v8 := (o6_0v7).st hb8
      have o7_0v8 := (o7_0).st hb8
      clear o5_0_0v7 o6_0v7 o7_0
      go_wp2_with fail
      ((with_reducible refine (eqEntryS_b (jlL a0_0 a1_0) A8_0_0 c8_0_0 (jlL a0_0 a1_0) A5_0_0 c5_0_0 _ ((o8_0_0).rd') o5_0_0v8 (by omega) (by omega)).mono ?_); rintro e w9 ⟨rfl, hb9⟩)
      have s9 : w8.heap.size ≤ w9.heap.size := by have := hb9.size; simpa using this
      have B9 : Below w.heap.size w w9 := (B8).trans (hb9.mono (by first | omega | (simp <;> omega)))
      have o5_0_0v9 := (o5_0_0v8).st hb9
      have o6_0v9 := (o6_0v8).st hb9
      have o7_0v9 := (o7_0v8).st hb9
      have o8_0_0v9 := (o8_0_0).st hb9
      clear o5_0_0v8 o6_0v8 o7_0v8 o8_0_0
      go_wp2_with fail
      ((with_reducible refine (toEntryS_any a0_0 Aa0_0 ca0_0 _ ((h0_0.below B9 (Nat.le_refl _))) (by omega)).mono ?_); rintro e w10 ⟨A10_0, c10_0, rfl, o10_0, hb10⟩)
      have s10 : w9.heap.size ≤ w10.heap.size := by have := hb10.size; simpa using this
      have B10 : Below w.heap.size w w10 := (B9).trans (hb10.mono (by first | omega | (simp <;> omega)))
      have o5_0_0v10 := (o5_0_0v9).st hb10
      have o6_0v10 := (o6_0v9).st hb10
      have o7_0v10 := (o7_0v9).st hb10
      have o8_0_0v10 := (o8_0_0v9).st hb10
      clear o5_0_0v9 o6_0v9 o7_0v9 o8_0_0v9
      go_wp2_with fail
      ((with_reducible refine (eqEntryS_b a0_0 A6_0 c6_0 a0_0 A10_0 c10_0 _ ((o6_0v10).rd') ((o10_0).rd') (by omega) (by omega)).mono ?_); rintro e w11 ⟨rfl, hb11⟩)
      have s11 : w10.heap.size ≤ w11.heap.size := by have := hb11.size; simpa using this
      have B11 : Below w.heap.size w w11 := (B10).trans (hb11.mono (by first | omega | (simp <;> omega)))
      have o5_0_0v11 := (o5_0_0v10).st hb11
      have o6_0v11 := (o6_0v10).st hb11
      have o7_0v11 := (o7_0v10).st hb11
      have o8_0_0v11 := (o8_0_0v10).st hb11
      have o10_0v11 := (o10_0).st hb11
      clear o5_0_0v10 o6_0v10 o7_0v10 o8_0_0v10 o10_0
      go_wp2_with fail
      ((with_reducible refine (toEntryS_any a1_0 Aa1_0 ca1_0 _ ((h1_0.below B11 (Nat.le_refl _))) (by omega)).mono ?_); rintro e w12 ⟨A12_0, c12_0, rfl, o12_0, hb12⟩)
      have s12 : w11.heap.size ≤ w12.heap.size := by have := hb12.size; simpa using this
      have B12 : Below w.heap.size w w12 := (B11).trans (hb12.mono (by first | omega | (simp <;> omega)))
      have o5_0_0v12 := (o5_0_0v11).st hb12
      have o6_0v12 := (o6_0v11).st hb12
      have o7_0v12 := (o7_0v11).st hb12
      have o8_0_0v12 := (o8_0_0v11).st hb12
      clear o5_0_0v11 o6_0v11 o7_0v11 o8_0_0v11
      go_wp2_with fail
      ((with_reducible refine (eqEntryS_b a1_0 A7_0 c7_0 a1_0 A12_0 c12_0 _ ((o7_0v12).rd') ((o12_0).rd') (by omega) (by omega)).mono ?_); rintro e w13 ⟨rfl, hb13⟩)
      have s13 : w12.heap.size ≤ w13.heap.size := by have := hb13.size; simpa using this
      have B13 : Below w.heap.size w w13 := (B12).trans (hb13.mono (by first | omega | (simp <;> omega)))
      have o5_0_0v13 := (o5_0_0v12).st hb13
      have o6_0v13 := (o6_0v12).st hb13
      have o7_0v13 := (o7_0v12).st hb13
      have o8_0_0v13 := (o8_0_0v12).st hb13
      have o12_0v13 := (o12_0).st hb13
      clear o5_0_0v12 o6_0v12 o7_0v12 o8_0_0v12 o12_0
      go_wp2_with fail
      ((with_reducible refine (markEntryS_r a0_0 A6_0 c6_0 1 _ o6_0v13 (by omega) (by omega)).mono ?_); rintro e w14 ⟨r14, rfl, g14, G14, hb14⟩)
      have s14 : w13.heap.size ≤ w14.heap.size := by have := hb14.size; simpa using this
      have B14 : Below w.heap.size w w14 := (B13).trans (hb14.below (by first | omega | (simp <;> omega)) (by first | omega | (simp <;> omega)))
      have o5_0_0v14 := (o5_0_0v13).fr hb14 (by first | omega | (simp <;> omega))
      have o7_0v14 := (o7_0v13).fr hb14 (by first | omega | (simp <;> omega))
      have o8_0_0v14 := (o8_0_0v13).fr hb14 (by first | omega | (simp <;> omega))
      clear o5_0_0v13 o7_0v13 o8_0_0v13
      go_wp2_with fail
      ((with_reducible refine (markEntryS_r a1_0 A7_0 c7_0 r14 _ o7_0v14 (by omega) (by omega)).mono ?_); rintro e w15 ⟨r15, rfl, g15, G15, hb15⟩)
      have s15 : w14.heap.size ≤ w15.heap.size := by have := hb15.size; simpa using this
      have B15 : Below w.heap.size w w15 := (B14).trans (hb15.below (by first | omega | (simp <;> omega)) (by first | omega | (simp <;> omega)))
      have o5_0_0v15 := (o5_0_0v14).fr hb15 (by first | omega | (simp <;> omega))
      have o8_0_0v15 := (o8_0_0v14).fr hb15 (by first | omega | (simp <;> omega))
      clear o5_0_0v14 o8_0_0v14
      go_wp2_with fail
      ((with_reducible refine (eqEntryS_b (jlL a0_0 a1_0) A8_0_0 c8_0_0 (jlL a0_0 a1_0) A5_0_0 c5_0_0 _ ((o8_0_0v15).rd') o5_0_0v15 (by omega) (by omega)).mono ?_); rintro e w16 ⟨rfl, hb16⟩)
      have s16 : w15.heap.size ≤ w16.heap.size := by have := hb16.size; simpa using this
      have B16 : Below w.heap.size w w16 := (B15).trans (hb16.mono (by first | omega | (simp <;> omega)))
      have o5_0_0v16 := (o5_0_0v15).st hb16
      have o8_0_0v16 := (o8_0_0v15).st hb16
      clear o5_0_0v15 o8_0_0v15
      go_wp2_with fail
      ((with_reducible refine (markEntryS_b (jlL a0_0 a1_0) A8_0_0 c8_0_0 1 _ o8_0_0v16 (by omega) (by omega)).mono ?_); rintro e w17 ⟨rfl, f17_0, hb17⟩)
      have s17 : w16.heap.size ≤ w17.heap.size := by have := hb17.size; simpa using this
      have B17 : Below w.heap.size w w17 := (B16).trans (hb17.below (by first | omega | (simp <;> omega)) (by first | omega | (simp <;> omega)))
      have o5_0_0v17 := (o5_0_0v16).fr hb17 (by first | omega | (simp <;> omega))
      clear o5_0_0v16
      go_wp2_with fail
      ((with_reducible refine (heldEntryS_b (jlL a0_0 a1_0) A8_0_0 c8_0_0 1 _ ((f17_0).rd') (by omega) (by omega)).mono ?_); rintro e w18 ⟨rfl, hb18⟩)
      have s18 : w17.heap.size ≤ w18.heap.size := by have := hb18.size; simpa using this
      have B18 : Below w.heap.size w w18 := (B17).trans (hb18.mono (by first | omega | (simp <;> omega)))
      have o5_0_0v18 := (o5_0_0v17).st hb18
      have f17_0v18 := (f17_0).st hb18
      clear o5_0_0v17 f17_0
      go_wp2_with fail
      ((with_reducible refine (toEntryS_any a0_0 Aa0_0 ca0_0 _ ((h0_0.below B18 (Nat.le_refl _))) (by omega)).mono ?_); rintro e w19 ⟨A19_0, c19_0, rfl, o19_0, hb19⟩)
      have s19 : w18.heap.size ≤ w19.heap.size := by have := hb19.size; simpa using this
      have B19 : Below w.heap.size w w19 := (B18).trans (hb19.mono (by first | omega | (simp <;> omega)))
      have o5_0_0v19 := (o5_0_0v18).st hb19
      have f17_0v19 := (f17_0v18).st hb19
      clear o5_0_0v18 f17_0v18
      go_wp2_with fail
      ((with_reducible refine (toEntryS_any a1_0 Aa1_0 ca1_0 _ ((h1_0.below B19 (Nat.le_refl _))) (by omega)).mono ?_); rintro e w20 ⟨A20_0, c20_0, rfl, o20_0, hb20⟩)
      have s20 : w19.heap.size ≤ w20.heap.size := by have := hb20.size; simpa using this
      have B20 : Below w.heap.size w w20 := (B19).trans (hb20.mono (by first | omega | (simp <;> omega)))
      have o5_0_0v20 := (o5_0_0v19).st hb20
      have f17_0v20 := (f17_0v19).st hb20
      have o19_0v20 := (o19_0).st hb20
      clear o5_0_0v19 f17_0v19 o19_0
      go_wp2_with fail
      ((with_reducible refine (iJoinLogs_any a0_0 A19_0 c19_0 a1_0 A20_0 c20_0 _ ((o19_0v20).rd') ((o20_0).rd') (by omega) (by omega) (o19_0v20).cap (o20_0).cap).mono ?_); rintro e w21 ⟨A21_0_0, c21_0_0, rfl, o21_0_0, l21_0, hb21⟩)
      have s21 : w20.heap.size ≤ w21.heap.size := by have := hb21.size; simpa using this
      have B21 : Below w.heap.size w w21 := (B20).trans (hb21.mono (by first | omega | (simp <;> omega)))
      have o5_0_0v21 := (o5_0_0v20).st hb21
      have f17_0v21 := (f17_0v20).st hb21
      have o19_0v21 := (o19_0v20).st hb21
      have o20_0v21 := (o20_0).st hb21
      clear o5_0_0v20 f17_0v20 o19_0v20 o20_0
      go_wp2_with fail
      ((with_reducible refine (eqEntryS_b (jlL a0_0 a1_0) A21_0_0 c21_0_0 (jlL a0_0 a1_0) A5_0_0 c5_0_0 _ ((o21_0_0).rd') o5_0_0v21 (by omega) (by omega)).mono ?_); rintro e w22 ⟨rfl, hb22⟩)
      have s22 : w21.heap.size ≤ w22.heap.size := by have := hb22.size; simpa using this
      have B22 : Below w.heap.size w w22 := (B21).trans (hb22.mono (by first | omega | (simp <;> omega)))
      have o5_0_0v22 := (o5_0_0v21).st hb22
      have f17_0v22 := (f17_0v21).st hb22
      have o21_0_0v22 := (o21_0_0).st hb22
      clear o5_0_0v21 f17_0v21 o21_0_0
      go_wp2_with fail
      ((with_reducible refine (heldEntryS_b (jlL a0_0 a1_0) A8_0_0 c8_0_0 1 _ ((f17_0v22).rd') (by omega) (by omega)).mono ?_); rintro e w23 ⟨rfl, hb23⟩)
      have s23 : w22.heap.size ≤ w23.heap.size := by have := hb23.size; simpa using this
      have B23 : Below w.heap.size w w23 := (B22).trans (hb23.mono (by first | omega | (simp <;> omega)))
      have o5_0_0v23 := (o5_0_0v22).st hb23
      have f17_0v23 := (f17_0v22).st hb23
      have o21_0_0v23 := (o21_0_0v22).st hb23
      clear o5_0_0v22 f17_0v22 o21_0_0v22
      go_wp2_with fail
      go_ret
      exact ⟨rfl, B23⟩
    · go_enter Try.func3, Try.ntmps3
      go_wp2_with fail
      ((with_reducible refine (szEntryS_yes a0_0 Aa0_0 ca0_0 1048576 _ (by omega) h0_0 l0_0 v0_0 (by omega)).mono ?_); rintro e w1 ⟨rfl, hb1⟩)
      have s1 : w.heap.size ≤ w1.heap.size := by have := hb1.size; simpa using this
      have B1 : Below w.heap.size w w1 := ((Below.refl w.heap.size w)).trans (hb1.mono (by first | omega | (simp <;> omega)))
      go_wp2_with fail
      ((with_reducible refine (szEntryS_no a1_0 Aa1_0 ca1_0 (1048576 - ((eszL a0_0 : Nat) : Int)) _ (by omega) ((h1_0.below B1 (Nat.le_refl _))) l1_0 v1_0 (by omega)).mono ?_); rintro e w2 ⟨rfl, hb2⟩)
      have s2 : w1.heap.size ≤ w2.heap.size := by have := hb2.size; simpa using this
      have B2 : Below w.heap.size w w2 := (B1).trans (hb2.mono (by first | omega | (simp <;> omega)))
      go_wp2_with fail
      go_ret
      exact ⟨rfl, B2⟩
  · go_enter Try.func3, Try.ntmps3
    go_wp2_with fail
    ((with_reducible refine (szEntryS_no a0_0 Aa0_0 ca0_0 1048576 _ (by omega) h0_0 l0_0 v0_0 (by omega)).mono ?_); rintro e w1 ⟨rfl, hb1⟩)
    have s1 : w.heap.size ≤ w1.heap.size := by have := hb1.size; simpa using this
    have B1 : Below w.heap.size w w1 := ((Below.refl w.heap.size w)).trans (hb1.mono (by first | omega | (simp <;> omega)))
    go_wp2_with fail
    go_ret
    exact ⟨rfl, B1⟩

end Go.Proofs.Yteajjbfecpffeaa.fnExactJoinLogs
