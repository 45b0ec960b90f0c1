/-
  The walk through FnExactUseNextPage, call by call. Printed by a program of this claim's own. No conditions beyond the bounds of Go's slices.
-/
import Derived.Test.YtdonggpcabkmlaaLawKit
import Derived.Test.YtdonggpcabkmlaaUse3
namespace Go.Proofs.Ytdonggpcabkmlaa.fnExactUseNextPage
open Go.ChangeShapes Go.WideShapes Go.ChangeAt Go.RowKit
set_option linter.unusedVariables false

set_option maxRecDepth 100000 in
set_option maxHeartbeats 4000000 in
theorem walk (a0_0 : Int) (a0_1 : Int) (a0_2 : List Int) (Aa0_2 : Option Addr) (ca0_2 : Nat) (w : World) (h0_0 : Rd w 0 w.heap.size Aa0_2 a0_2) (l0_0 : a0_2.length ≤ 9223372036854775807) :
    Calls Try.prog 3 #[.agg #[.int .i64 a0_0, .int .i64 a0_1, .slice Aa0_2 a0_2.length ca0_2]] w fun e w' => e = .returned (.bool true) ∧ Below w.heap.size w w' := by
  by_cases z0 : a0_2.length ≤ 1048576
  · skip
    go_enter Try.func3, Try.ntmps3
    go_wp2_with fail
    ((with_reducible refine (szKeyBook_yes a0_0 a0_1 a0_2 Aa0_2 ca0_2 1048576 _ (by omega) l0_0 (by omega)).mono ?_); rintro e w1 ⟨rfl, hb1⟩)
    have s1 : w.heap.size + 1 ≤ w1.heap.size := by have := hb1.size; simpa using this
    have B1 : Below w.heap.size w w1 := (((Below.refl w.heap.size w)).alloc (by first | omega | (simp <;> omega)) _).trans (hb1.mono (by first | omega | (simp <;> omega)))
    have k1_0 := (Bk.new w _ _).st hb1
    have xk1_0 := k1_0.lt
    have ck1_0_0 := k1_0.cell 0
    simp at ck1_0_0
    have ck1_0_1 := k1_0.cell 1
    simp at ck1_0_1
    have ck1_0_2 := k1_0.cell 2
    simp at ck1_0_2
    go_wp2_with fail
    ((with_reducible refine (toKeyBook_any a0_0 a0_1 a0_2 Aa0_2 ca0_2 _ ((h0_0.below B1 (Nat.le_refl _))) (by omega)).mono ?_); rintro e w2 ⟨A2_0, c2_0, rfl, o2_0, hb2⟩)
    have s2 : w1.heap.size ≤ w2.heap.size := by have := hb2.size; simpa using this
    have B2 : Below w.heap.size w w2 := (B1).trans (hb2.mono (by first | omega | (simp <;> omega)))
    have k1_0v2 := (k1_0).st hb2
    clear k1_0 xk1_0 ck1_0_0 ck1_0_1 ck1_0_2
    go_wp2_with fail
    ((with_reducible refine (sUseNextPage_any a0_0 a0_1 a0_2 A2_0 c2_0 _ o2_0 (by omega) ).mono ?_); rintro e w3 ⟨A3_0_0, c3_0_0, rfl, o3_0_0, l3_0, hb3⟩)
    have s3 : w2.heap.size ≤ w3.heap.size := by have := hb3.size; simpa using this
    have B3 : Below w.heap.size w w3 := (B2).trans (hb3.mono (by first | omega | (simp <;> omega)))
    have k1_0v3 := (k1_0v2).st hb3
    have o2_0v3 := (o2_0).st hb3
    clear k1_0v2 o2_0
    have xk1_0v3 := k1_0v3.lt
    have ck1_0v3_0 := k1_0v3.cell 0
    simp at ck1_0v3_0
    have ck1_0v3_1 := k1_0v3.cell 1
    simp at ck1_0v3_1
    have ck1_0v3_2 := k1_0v3.cell 2
    simp at ck1_0v3_2
    go_wp2_with fail
    ((with_reducible refine (toKeyBook_any a0_0 a0_1 a0_2 Aa0_2 ca0_2 _ (((h0_0.below B3 (Nat.le_refl _))).alloc _) (by omega)).mono ?_); rintro e w4 ⟨A4_0, c4_0, rfl, o4_0, hb4⟩)
    have s4 : w3.heap.size + 1 ≤ w4.heap.size := by have := hb4.size; simpa using this
    have B4 : Below w.heap.size w w4 := ((B3).alloc (by first | omega | (simp <;> omega)) _).trans (hb4.mono (by first | omega | (simp <;> omega)))
    have k1_0v4 := ((k1_0v3).alloc _).st hb4
    have o3_0_0v4 := ((o3_0_0).alloc _).st hb4
    have k4_0 := (Bk.new w3 _ _).st hb4
    clear k1_0v3 o3_0_0 xk1_0v3 ck1_0v3_0 ck1_0v3_1 ck1_0v3_2
    go_wp2_with fail
    ((with_reducible refine (iUseNextPage_any a0_0 a0_1 a0_2 A4_0 c4_0 _ ((o4_0).alloc _) (by omega) ).mono ?_); rintro e w5 ⟨A5_0_0, c5_0_0, rfl, o5_0_0, l5_0, hb5⟩)
    have s5 : w4.heap.size + 1 ≤ w5.heap.size := by have := hb5.size; simpa using this
    have B5 : Below w.heap.size w w5 := ((B4).alloc (by first | omega | (simp <;> omega)) _).trans (hb5.mono (by first | omega | (simp <;> omega)))
    have k1_0v5 := ((k1_0v4).alloc _).st hb5
    have o3_0_0v5 := ((o3_0_0v4).alloc _).st hb5
    have k4_0v5 := ((k4_0).alloc _).st hb5
    have o4_0v5 := ((o4_0).alloc _).st hb5
    have k5_0 := (Bk.new w4 _ _).st hb5
    clear k1_0v4 o3_0_0v4 k4_0 o4_0
    have hq0 := eqKb_self (unK a0_0 a0_1 a0_2) (unP a0_0 a0_1 a0_2) (unL a0_0 a0_1 a0_2)
    have xk4_0v5 := k4_0v5.lt
    have ck4_0v5_0 := k4_0v5.cell 0
    simp at ck4_0v5_0
    have ck4_0v5_1 := k4_0v5.cell 1
    simp at ck4_0v5_1
    have ck4_0v5_2 := k4_0v5.cell 2
    simp at ck4_0v5_2
    go_wp2_with fail
    ((with_reducible refine (eqKeyBook_b (unK a0_0 a0_1 a0_2) (unP a0_0 a0_1 a0_2) (unL a0_0 a0_1 a0_2) A5_0_0 c5_0_0 (unK a0_0 a0_1 a0_2) (unP a0_0 a0_1 a0_2) (unL a0_0 a0_1 a0_2) A3_0_0 c3_0_0 _ (((o5_0_0).alloc _).rd') ((o3_0_0v5).alloc _) (by omega) (by omega)).mono ?_); rintro e w6 ⟨rfl, hb6⟩)
    have s6 : w5.heap.size + 1 ≤ w6.heap.size := by have := hb6.size; simpa using this
    have B6 : Below w.heap.size w w6 := ((B5).alloc (by first | omega | (simp <;> omega)) _).trans (hb6.mono (by first | omega | (simp <;> omega)))
    have k1_0v6 := ((k1_0v5).alloc _).st hb6
    have o3_0_0v6 := ((o3_0_0v5).alloc _).st hb6
    have k4_0v6 := ((k4_0v5).alloc _).st hb6
    have o4_0v6 := ((o4_0v5).alloc _).st hb6
    have k5_0v6 := ((k5_0).alloc _).st hb6
    have o5_0_0v6 := ((o5_0_0).alloc _).st hb6
    have k6_0 := (Bk.new w5 _ _).st hb6
    clear k1_0v5 o3_0_0v5 k4_0v5 o4_0v5 k5_0 o5_0_0 xk4_0v5 ck4_0v5_0 ck4_0v5_1 ck4_0v5_2
    have hq1 := eqKb_self a0_0 a0_1 a0_2
    have xk5_0v6 := k5_0v6.lt
    have ck5_0v6_0 := k5_0v6.cell 0
    simp at ck5_0v6_0
    have ck5_0v6_1 := k5_0v6.cell 1
    simp at ck5_0v6_1
    have ck5_0v6_2 := k5_0v6.cell 2
    simp at ck5_0v6_2
    have xk1_0v6 := k1_0v6.lt
    have ck1_0v6_0 := k1_0v6.cell 0
    simp at ck1_0v6_0
    have ck1_0v6_1 := k1_0v6.cell 1
    simp at ck1_0v6_1
    have ck1_0v6_2 := k1_0v6.cell 2
    simp at ck1_0v6_2
    go_wp2_with fail
    go_region_held3 (fun w' => w'.cell? ⟨w4.heap.size, 0, none⟩ = some (.int .i64 a0_0) ∧ w'.cell? ⟨w4.heap.size, 1, none⟩ = some (.int .i64 a0_1) ∧ w'.cell? ⟨w4.heap.size, 2, none⟩ = some (.slice A4_0 a0_2.length c4_0) ∧ w'.cell? ⟨w.heap.size, 0, none⟩ = some (.int .i64 a0_0) ∧ w'.cell? ⟨w.heap.size, 1, none⟩ = some (.int .i64 a0_1) ∧ w'.cell? ⟨w.heap.size, 2, none⟩ = some (.slice Aa0_2 a0_2.length ca0_2)) (first | go_keep | ((try go_split_ands); (try dsimp only); (repeat' apply And.intro) <;> (first | go_keep | ((refine (hc8 _ _ ?_).trans ?_) <;> first | assumption | omega | (simp <;> omega)) | ((refine (hc7 _ _ ?_).trans ?_) <;> first | assumption | omega | (simp <;> omega)))))
      (first
        | (go_at_call 14; ((with_reducible refine (toKeyBook_any a0_0 a0_1 a0_2 Aa0_2 ca0_2 _ (((h0_0.below B6 (Nat.le_refl _))).drew) (by omega)).mono ?_); rintro e w7 ⟨A7_0, c7_0, rfl, o7_0, hb7⟩; (have s7 : w6.heap.size ≤ w7.heap.size := by have := hb7.size; simpa using this); (have B7 : Below w.heap.size w w7 := ((B6).drew).trans (hb7.mono (by first | omega | (simp <;> omega)))); (have k1_0v7 := ((k1_0v6).drew).st hb7); (have o3_0_0v7 := ((o3_0_0v6).drew).st hb7); (have k4_0v7 := ((k4_0v6).drew).st hb7); (have o4_0v7 := ((o4_0v6).drew).st hb7); (have k5_0v7 := ((k5_0v6).drew).st hb7); (have o5_0_0v7 := ((o5_0_0v6).drew).st hb7); (have k6_0v7 := ((k6_0).drew).st hb7); (have hc7 := (bcell hb7).1)))
        | (go_at_call 16; ((with_reducible refine (eqKeyBook_b a0_0 a0_1 a0_2 A4_0 c4_0 a0_0 a0_1 a0_2 A7_0 c7_0 _ ((o4_0v7).rd') ((o7_0).rd') (by omega) (by omega)).mono ?_); rintro e w8 ⟨rfl, hb8⟩; (have s8 : w7.heap.size ≤ w8.heap.size := by have := hb8.size; simpa using this); (have B8 : Below w.heap.size w w8 := (B7).trans (hb8.mono (by first | omega | (simp <;> omega)))); (have k1_0v8 := (k1_0v7).st hb8); (have o3_0_0v8 := (o3_0_0v7).st hb8); (have k4_0v8 := (k4_0v7).st hb8); (have o4_0v8 := (o4_0v7).st hb8); (have k5_0v8 := (k5_0v7).st hb8); (have o5_0_0v8 := (o5_0_0v7).st hb8); (have k6_0v8 := (k6_0v7).st hb8); (have o7_0v8 := (o7_0).st hb8); (have hc8 := (bcell hb8).1))))
    clear xk5_0v6 ck5_0v6_0 ck5_0v6_1 ck5_0v6_2 xk1_0v6 ck1_0v6_0 ck1_0v6_1 ck1_0v6_2
    have xk5_0v8 := k5_0v8.lt
    have ck5_0v8_0 := k5_0v8.cell 0
    simp at ck5_0v8_0
    have ck5_0v8_1 := k5_0v8.cell 1
    simp at ck5_0v8_1
    have ck5_0v8_2 := k5_0v8.cell 2
    simp at ck5_0v8_2
    go_wp2_with fail
    ((with_reducible refine (markKeyBook_b a0_0 a0_1 a0_2 A4_0 c4_0 1 _ o4_0v8 (by omega) (by omega)).mono ?_); rintro e w9 ⟨rfl, f9_0, hb9⟩)
    have s9 : w8.heap.size ≤ w9.heap.size := by have := hb9.size; simpa using this
    have B9 : Below w.heap.size w w9 := (B8).trans (hb9.below (by first | omega | (simp <;> omega)) (by first | omega | (simp <;> omega)))
    have k1_0v9 := (k1_0v8).fr hb9 (by first | omega | (simp <;> omega))
    have o3_0_0v9 := (o3_0_0v8).fr hb9 (by first | omega | (simp <;> omega))
    have k4_0v9 := (k4_0v8).fr hb9 (by first | omega | (simp <;> omega))
    have k5_0v9 := (k5_0v8).fr hb9 (by first | omega | (simp <;> omega))
    have o5_0_0v9 := (o5_0_0v8).fr hb9 (by first | omega | (simp <;> omega))
    have k6_0v9 := (k6_0v8).fr hb9 (by first | omega | (simp <;> omega))
    clear k1_0v8 o3_0_0v8 k4_0v8 k5_0v8 o5_0_0v8 k6_0v8 xk5_0v8 ck5_0v8_0 ck5_0v8_1 ck5_0v8_2
    have xk6_0v9 := k6_0v9.lt
    have ck6_0v9_0 := k6_0v9.cell 0
    simp at ck6_0v9_0
    have ck6_0v9_1 := k6_0v9.cell 1
    simp at ck6_0v9_1
    have ck6_0v9_2 := k6_0v9.cell 2
    simp at ck6_0v9_2
    have xk4_0v9 := k4_0v9.lt
    have ck4_0v9_0 := k4_0v9.cell 0
    simp at ck4_0v9_0
    have ck4_0v9_1 := k4_0v9.cell 1
    simp at ck4_0v9_1
    have ck4_0v9_2 := k4_0v9.cell 2
    simp at ck4_0v9_2
    go_wp2_with fail
    ((with_reducible refine (eqKeyBook_b (unK a0_0 a0_1 a0_2) (unP a0_0 a0_1 a0_2) (unL a0_0 a0_1 a0_2) A5_0_0 c5_0_0 (unK a0_0 a0_1 a0_2) (unP a0_0 a0_1 a0_2) (unL a0_0 a0_1 a0_2) A3_0_0 c3_0_0 _ ((o5_0_0v9).rd') o3_0_0v9 (by omega) (by omega)).mono ?_); rintro e w10 ⟨rfl, hb10⟩)
    have s10 : w9.heap.size ≤ w10.heap.size := by have := hb10.size; simpa using this
    have B10 : Below w.heap.size w w10 := (B9).trans (hb10.mono (by first | omega | (simp <;> omega)))
    have k1_0v10 := (k1_0v9).st hb10
    have o3_0_0v10 := (o3_0_0v9).st hb10
    have k4_0v10 := (k4_0v9).st hb10
    have o5_0_0v10 := (o5_0_0v9).st hb10
    have k6_0v10 := (k6_0v9).st hb10
    clear k1_0v9 o3_0_0v9 k4_0v9 o5_0_0v9 k6_0v9 xk6_0v9 ck6_0v9_0 ck6_0v9_1 ck6_0v9_2 xk4_0v9 ck4_0v9_0 ck4_0v9_1 ck4_0v9_2
    have xk6_0v10 := k6_0v10.lt
    have ck6_0v10_0 := k6_0v10.cell 0
    simp at ck6_0v10_0
    have ck6_0v10_1 := k6_0v10.cell 1
    simp at ck6_0v10_1
    have ck6_0v10_2 := k6_0v10.cell 2
    simp at ck6_0v10_2
    go_wp2_with fail
    ((with_reducible refine (markKeyBook_b (unK a0_0 a0_1 a0_2) (unP a0_0 a0_1 a0_2) (unL a0_0 a0_1 a0_2) A5_0_0 c5_0_0 1 _ o5_0_0v10 (by omega) (by omega)).mono ?_); rintro e w11 ⟨rfl, f11_0, hb11⟩)
    have s11 : w10.heap.size ≤ w11.heap.size := by have := hb11.size; simpa using this
    have B11 : Below w.heap.size w w11 := (B10).trans (hb11.below (by first | omega | (simp <;> omega)) (by first | omega | (simp <;> omega)))
    have k1_0v11 := (k1_0v10).fr hb11 (by first | omega | (simp <;> omega))
    have o3_0_0v11 := (o3_0_0v10).fr hb11 (by first | omega | (simp <;> omega))
    have k4_0v11 := (k4_0v10).fr hb11 (by first | omega | (simp <;> omega))
    have k6_0v11 := (k6_0v10).fr hb11 (by first | omega | (simp <;> omega))
    clear k1_0v10 o3_0_0v10 k4_0v10 k6_0v10 xk6_0v10 ck6_0v10_0 ck6_0v10_1 ck6_0v10_2
    have xk6_0v11 := k6_0v11.lt
    have ck6_0v11_0 := k6_0v11.cell 0
    simp at ck6_0v11_0
    have ck6_0v11_1 := k6_0v11.cell 1
    simp at ck6_0v11_1
    have ck6_0v11_2 := k6_0v11.cell 2
    simp at ck6_0v11_2
    go_wp2_with fail
    ((with_reducible refine (heldKeyBook_b (unK a0_0 a0_1 a0_2) (unP a0_0 a0_1 a0_2) (unL a0_0 a0_1 a0_2) A5_0_0 c5_0_0 1 _ ((f11_0).rd') (by omega) (by omega)).mono ?_); rintro e w12 ⟨rfl, hb12⟩)
    have s12 : w11.heap.size ≤ w12.heap.size := by have := hb12.size; simpa using this
    have B12 : Below w.heap.size w w12 := (B11).trans (hb12.mono (by first | omega | (simp <;> omega)))
    have k1_0v12 := (k1_0v11).st hb12
    have o3_0_0v12 := (o3_0_0v11).st hb12
    have k4_0v12 := (k4_0v11).st hb12
    have f11_0v12 := (f11_0).st hb12
    have k6_0v12 := (k6_0v11).st hb12
    clear k1_0v11 o3_0_0v11 k4_0v11 f11_0 k6_0v11 xk6_0v11 ck6_0v11_0 ck6_0v11_1 ck6_0v11_2
    have xk1_0v12 := k1_0v12.lt
    have ck1_0v12_0 := k1_0v12.cell 0
    simp at ck1_0v12_0
    have ck1_0v12_1 := k1_0v12.cell 1
    simp at ck1_0v12_1
    have ck1_0v12_2 := k1_0v12.cell 2
    simp at ck1_0v12_2
    go_wp2_with fail
    ((with_reducible refine (toKeyBook_any a0_0 a0_1 a0_2 Aa0_2 ca0_2 _ ((h0_0.below B12 (Nat.le_refl _))) (by omega)).mono ?_); rintro e w13 ⟨A13_0, c13_0, rfl, o13_0, hb13⟩)
    have s13 : w12.heap.size ≤ w13.heap.size := by have := hb13.size; simpa using this
    have B13 : Below w.heap.size w w13 := (B12).trans (hb13.mono (by first | omega | (simp <;> omega)))
    have k1_0v13 := (k1_0v12).st hb13
    have o3_0_0v13 := (o3_0_0v12).st hb13
    have k4_0v13 := (k4_0v12).st hb13
    have f11_0v13 := (f11_0v12).st hb13
    have k6_0v13 := (k6_0v12).st hb13
    clear k1_0v12 o3_0_0v12 k4_0v12 f11_0v12 k6_0v12 xk1_0v12 ck1_0v12_0 ck1_0v12_1 ck1_0v12_2
    go_wp2_with fail
    ((with_reducible refine (iUseNextPage_any a0_0 a0_1 a0_2 A13_0 c13_0 _ o13_0 (by omega) ).mono ?_); rintro e w14 ⟨A14_0_0, c14_0_0, rfl, o14_0_0, l14_0, hb14⟩)
    have s14 : w13.heap.size ≤ w14.heap.size := by have := hb14.size; simpa using this
    have B14 : Below w.heap.size w w14 := (B13).trans (hb14.mono (by first | omega | (simp <;> omega)))
    have k1_0v14 := (k1_0v13).st hb14
    have o3_0_0v14 := (o3_0_0v13).st hb14
    have k4_0v14 := (k4_0v13).st hb14
    have f11_0v14 := (f11_0v13).st hb14
    have k6_0v14 := (k6_0v13).st hb14
    have o13_0v14 := (o13_0).st hb14
    clear k1_0v13 o3_0_0v13 k4_0v13 f11_0v13 k6_0v13 o13_0
    have xk4_0v14 := k4_0v14.lt
    have ck4_0v14_0 := k4_0v14.cell 0
    simp at ck4_0v14_0
    have ck4_0v14_1 := k4_0v14.cell 1
    simp at ck4_0v14_1
    have ck4_0v14_2 := k4_0v14.cell 2
    simp at ck4_0v14_2
    go_wp2_with fail
    ((with_reducible refine (eqKeyBook_b (unK a0_0 a0_1 a0_2) (unP a0_0 a0_1 a0_2) (unL a0_0 a0_1 a0_2) A14_0_0 c14_0_0 (unK a0_0 a0_1 a0_2) (unP a0_0 a0_1 a0_2) (unL a0_0 a0_1 a0_2) A3_0_0 c3_0_0 _ (((o14_0_0).alloc _).rd') ((o3_0_0v14).alloc _) (by omega) (by omega)).mono ?_); rintro e w15 ⟨rfl, hb15⟩)
    have s15 : w14.heap.size + 1 ≤ w15.heap.size := by have := hb15.size; simpa using this
    have B15 : Below w.heap.size w w15 := ((B14).alloc (by first | omega | (simp <;> omega)) _).trans (hb15.mono (by first | omega | (simp <;> omega)))
    have k1_0v15 := ((k1_0v14).alloc _).st hb15
    have o3_0_0v15 := ((o3_0_0v14).alloc _).st hb15
    have k4_0v15 := ((k4_0v14).alloc _).st hb15
    have f11_0v15 := ((f11_0v14).alloc _).st hb15
    have k6_0v15 := ((k6_0v14).alloc _).st hb15
    have o14_0_0v15 := ((o14_0_0).alloc _).st hb15
    have k15_0 := (Bk.new w14 _ _).st hb15
    clear k1_0v14 o3_0_0v14 k4_0v14 f11_0v14 k6_0v14 o14_0_0 xk4_0v14 ck4_0v14_0 ck4_0v14_1 ck4_0v14_2
    have xk6_0v15 := k6_0v15.lt
    have ck6_0v15_0 := k6_0v15.cell 0
    simp at ck6_0v15_0
    have ck6_0v15_1 := k6_0v15.cell 1
    simp at ck6_0v15_1
    have ck6_0v15_2 := k6_0v15.cell 2
    simp at ck6_0v15_2
    go_wp2_with fail
    ((with_reducible refine (heldKeyBook_b (unK a0_0 a0_1 a0_2) (unP a0_0 a0_1 a0_2) (unL a0_0 a0_1 a0_2) A5_0_0 c5_0_0 1 _ ((f11_0v15).rd') (by omega) (by omega)).mono ?_); rintro e w16 ⟨rfl, hb16⟩)
    have s16 : w15.heap.size ≤ w16.heap.size := by have := hb16.size; simpa using this
    have B16 : Below w.heap.size w w16 := (B15).trans (hb16.mono (by first | omega | (simp <;> omega)))
    have k1_0v16 := (k1_0v15).st hb16
    have o3_0_0v16 := (o3_0_0v15).st hb16
    have k4_0v16 := (k4_0v15).st hb16
    have f11_0v16 := (f11_0v15).st hb16
    have k6_0v16 := (k6_0v15).st hb16
    have o14_0_0v16 := (o14_0_0v15).st hb16
    have k15_0v16 := (k15_0).st hb16
    clear k1_0v15 o3_0_0v15 k4_0v15 f11_0v15 k6_0v15 o14_0_0v15 k15_0 xk6_0v15 ck6_0v15_0 ck6_0v15_1 ck6_0v15_2
    go_wp2_with fail
    go_ret
    exact ⟨rfl, B16⟩
  · go_enter Try.func3, Try.ntmps3
    go_wp2_with fail
    ((with_reducible refine (szKeyBook_no a0_0 a0_1 a0_2 Aa0_2 ca0_2 1048576 _ (by omega) l0_0 (by omega)).mono ?_); rintro e w1 ⟨rfl, hb1⟩)
    have s1 : w.heap.size + 1 ≤ w1.heap.size := by have := hb1.size; simpa using this
    have B1 : Below w.heap.size w w1 := (((Below.refl w.heap.size w)).alloc (by first | omega | (simp <;> omega)) _).trans (hb1.mono (by first | omega | (simp <;> omega)))
    have k1_0 := (Bk.new w _ _).st hb1
    go_wp2_with fail
    go_ret
    exact ⟨rfl, B1⟩

end Go.Proofs.Ytdonggpcabkmlaa.fnExactUseNextPage
