/-
  The walk through FnExactUseForLength, call by call. Printed by a program of this claim's own. No conditions beyond the bounds of Go's slices.
-/
import Derived.Test.YtdonggpcabkmlaaLawKit
import Derived.Test.YtdonggpcabkmlaaForLenS
namespace Go.Proofs.Ytdonggpcabkmlaa.fnExactUseForLength
open Go.ChangeShapes Go.WideShapes Go.ChangeAt Go.RowKit
set_option linter.unusedVariables false

set_option maxRecDepth 100000 in
set_option maxHeartbeats 4000000 in
theorem walk (a0_0 : Int) (a0_1 : Int) (a0_2 : List Int) (Aa0_2 : Option Addr) (ca0_2 : Nat) (a1_0 : Int) (w : World) (h0_0 : Rd w 0 w.heap.size Aa0_2 a0_2) (l0_0 : a0_2.length ≤ 9223372036854775807) :
    Calls Try.prog 7 #[.agg #[.int .i64 a0_0, .int .i64 a0_1, .slice Aa0_2 a0_2.length ca0_2], .int .i64 a1_0] w fun e w' => e = .returned (.bool true) ∧ Below w.heap.size w w' := by
  by_cases z0 : a0_2.length ≤ 1048576
  · skip
    go_enter Try.func7, Try.ntmps7
    go_wp2_with fail
    ((with_reducible refine (szKeyBook_yes a0_0 a0_1 a0_2 Aa0_2 ca0_2 1048576 _ (by omega) l0_0 (by omega)).mono ?_); rintro e w1 ⟨rfl, hb1⟩)
    have s1 : w.heap.size + 1 ≤ w1.heap.size := by have := hb1.size; simpa using this
    have B1 : Below w.heap.size w w1 := (((Below.refl w.heap.size w)).alloc (by first | omega | (simp <;> omega)) _).trans (hb1.mono (by first | omega | (simp <;> omega)))
    have k1_0 := (Bk.new w _ _).st hb1
    have xk1_0 := k1_0.lt
    have ck1_0_0 := k1_0.cell 0
    simp at ck1_0_0
    have ck1_0_1 := k1_0.cell 1
    simp at ck1_0_1
    have ck1_0_2 := k1_0.cell 2
    simp at ck1_0_2
    go_wp2_with fail
    ((with_reducible refine (toKeyBook_any a0_0 a0_1 a0_2 Aa0_2 ca0_2 _ ((h0_0.below B1 (Nat.le_refl _))) (by omega)).mono ?_); rintro e w2 ⟨A2_0, c2_0, rfl, o2_0, hb2⟩)
    have s2 : w1.heap.size ≤ w2.heap.size := by have := hb2.size; simpa using this
    have B2 : Below w.heap.size w w2 := (B1).trans (hb2.mono (by first | omega | (simp <;> omega)))
    have k1_0v2 := (k1_0).st hb2
    clear k1_0 xk1_0 ck1_0_0 ck1_0_1 ck1_0_2
    go_wp2_with fail
    ((with_reducible refine (sUseForLength_any a0_0 a0_1 a0_2 A2_0 c2_0 a1_0 _ ((o2_0).rd') (by omega) ).mono ?_); rintro e w3 ⟨A3_0_0, c3_0_0, A3_1_0, c3_1_0, rfl, o3_0_0, o3_1_0, l3_0, l3_1, hb3⟩)
    have s3 : w2.heap.size ≤ w3.heap.size := by have := hb3.size; simpa using this
    have B3 : Below w.heap.size w w3 := (B2).trans (hb3.mono (by first | omega | (simp <;> omega)))
    have k1_0v3 := (k1_0v2).st hb3
    have o2_0v3 := (o2_0).st hb3
    clear k1_0v2 o2_0
    have xk1_0v3 := k1_0v3.lt
    have ck1_0v3_0 := k1_0v3.cell 0
    simp at ck1_0v3_0
    have ck1_0v3_1 := k1_0v3.cell 1
    simp at ck1_0v3_1
    have ck1_0v3_2 := k1_0v3.cell 2
    simp at ck1_0v3_2
    go_wp2_with fail
    ((with_reducible refine (toKeyBook_any a0_0 a0_1 a0_2 Aa0_2 ca0_2 _ (((h0_0.below B3 (Nat.le_refl _))).alloc _) (by omega)).mono ?_); rintro e w4 ⟨A4_0, c4_0, rfl, o4_0, hb4⟩)
    have s4 : w3.heap.size + 1 ≤ w4.heap.size := by have := hb4.size; simpa using this
    have B4 : Below w.heap.size w w4 := ((B3).alloc (by first | omega | (simp <;> omega)) _).trans (hb4.mono (by first | omega | (simp <;> omega)))
    have k1_0v4 := ((k1_0v3).alloc _).st hb4
    have o3_0_0v4 := ((o3_0_0).alloc _).st hb4
    have k4_0 := (Bk.new w3 _ _).st hb4
    have o3_1_0v4 := ((o3_1_0).alloc _).st hb4
    clear k1_0v3 o3_0_0 o3_1_0 xk1_0v3 ck1_0v3_0 ck1_0v3_1 ck1_0v3_2
    go_wp2_with fail
    ((with_reducible refine (iUseForLength_any a0_0 a0_1 a0_2 A4_0 c4_0 a1_0 _ (((o4_0).alloc _).rd') (by omega) ).mono ?_); rintro e w5 ⟨A5_0_0, c5_0_0, A5_1_0, c5_1_0, il5_0, ir5_0, il5_1, ir5_1, rfl, o5_0_0, o5_1_0, ⟨ib5_0, ib5_1, ib5_2, ib5_3, ib5_4⟩, l5_0, l5_1, hb5⟩)
    have s5 : w4.heap.size + 1 ≤ w5.heap.size := by have := hb5.size; simpa using this
    have B5 : Below w.heap.size w w5 := ((B4).alloc (by first | omega | (simp <;> omega)) _).trans (hb5.mono (by first | omega | (simp <;> omega)))
    have k1_0v5 := ((k1_0v4).alloc _).st hb5
    have o3_0_0v5 := ((o3_0_0v4).alloc _).st hb5
    have k4_0v5 := ((k4_0).alloc _).st hb5
    have o3_1_0v5 := ((o3_1_0v4).alloc _).st hb5
    have o4_0v5 := ((o4_0).alloc _).st hb5
    have k5_0 := (Bk.new w4 _ _).st hb5
    clear k1_0v4 o3_0_0v4 k4_0 o3_1_0v4 o4_0
    have jb5_0 : w4.heap.size + 1 ≤ il5_0 := by simpa using ib5_0
    have jb5_1 : w4.heap.size + 1 ≤ il5_1 := by simpa using ib5_2
    have hq0 := eqKb_self (ufK a0_0 a0_1 a0_2 a1_0) (ufG a0_0 a0_1 a0_2 a1_0) (ufL a0_0 a0_1 a0_2 a1_0)
    have hq1 := eqL_self (ufN a0_0 a0_1 a0_2 a1_0)
    have xk4_0v5 := k4_0v5.lt
    have ck4_0v5_0 := k4_0v5.cell 0
    simp at ck4_0v5_0
    have ck4_0v5_1 := k4_0v5.cell 1
    simp at ck4_0v5_1
    have ck4_0v5_2 := k4_0v5.cell 2
    simp at ck4_0v5_2
    go_wp2_with fail
    ((with_reducible refine (eqKeyBook_b (ufK a0_0 a0_1 a0_2 a1_0) (ufG a0_0 a0_1 a0_2 a1_0) (ufL a0_0 a0_1 a0_2 a1_0) A5_0_0 c5_0_0 (ufK a0_0 a0_1 a0_2 a1_0) (ufG a0_0 a0_1 a0_2 a1_0) (ufL a0_0 a0_1 a0_2 a1_0) A3_0_0 c3_0_0 _ (((o5_0_0).alloc _).rd') ((o3_0_0v5).alloc _) (by omega) (by omega)).mono ?_); rintro e w6 ⟨rfl, hb6⟩)
    have s6 : w5.heap.size + 1 ≤ w6.heap.size := by have := hb6.size; simpa using this
    have B6 : Below w.heap.size w w6 := ((B5).alloc (by first | omega | (simp <;> omega)) _).trans (hb6.mono (by first | omega | (simp <;> omega)))
    have k1_0v6 := ((k1_0v5).alloc _).st hb6
    have o3_0_0v6 := ((o3_0_0v5).alloc _).st hb6
    have k4_0v6 := ((k4_0v5).alloc _).st hb6
    have o3_1_0v6 := ((o3_1_0v5).alloc _).st hb6
    have o4_0v6 := ((o4_0v5).alloc _).st hb6
    have k5_0v6 := ((k5_0).alloc _).st hb6
    have o5_0_0v6 := ((o5_0_0).alloc _).st hb6
    have k6_0 := (Bk.new w5 _ _).st hb6
    have o5_1_0v6 := ((o5_1_0).alloc _).st hb6
    clear k1_0v5 o3_0_0v5 k4_0v5 o3_1_0v5 o4_0v5 k5_0 o5_0_0 o5_1_0 xk4_0v5 ck4_0v5_0 ck4_0v5_1 ck4_0v5_2
    go_wp2_with fail
    ((with_reducible refine (eqIntS_b (ufN a0_0 a0_1 a0_2 a1_0) A5_1_0 c5_1_0 (ufN a0_0 a0_1 a0_2 a1_0) A3_1_0 c3_1_0 _ ((o5_1_0v6).rd') o3_1_0v6 (by omega) (by omega)).mono ?_); rintro e w7 ⟨rfl, hb7⟩)
    have s7 : w6.heap.size ≤ w7.heap.size := by have := hb7.size; simpa using this
    have B7 : Below w.heap.size w w7 := (B6).trans (hb7.mono (by first | omega | (simp <;> omega)))
    have k1_0v7 := (k1_0v6).st hb7
    have o3_0_0v7 := (o3_0_0v6).st hb7
    have k4_0v7 := (k4_0v6).st hb7
    have o3_1_0v7 := (o3_1_0v6).st hb7
    have o4_0v7 := (o4_0v6).st hb7
    have k5_0v7 := (k5_0v6).st hb7
    have o5_0_0v7 := (o5_0_0v6).st hb7
    have k6_0v7 := (k6_0).st hb7
    have o5_1_0v7 := (o5_1_0v6).st hb7
    clear k1_0v6 o3_0_0v6 k4_0v6 o3_1_0v6 o4_0v6 k5_0v6 o5_0_0v6 k6_0 o5_1_0v6
    have hq2 := eqKb_self a0_0 a0_1 a0_2
    have xk5_0v7 := k5_0v7.lt
    have ck5_0v7_0 := k5_0v7.cell 0
    simp at ck5_0v7_0
    have ck5_0v7_1 := k5_0v7.cell 1
    simp at ck5_0v7_1
    have ck5_0v7_2 := k5_0v7.cell 2
    simp at ck5_0v7_2
    have xk1_0v7 := k1_0v7.lt
    have ck1_0v7_0 := k1_0v7.cell 0
    simp at ck1_0v7_0
    have ck1_0v7_1 := k1_0v7.cell 1
    simp at ck1_0v7_1
    have ck1_0v7_2 := k1_0v7.cell 2
    simp at ck1_0v7_2
    go_wp2_with fail
    go_region_held3 (fun w' => w'.cell? ⟨w4.heap.size, 0, none⟩ = some (.int .i64 a0_0) ∧ w'.cell? ⟨w4.heap.size, 1, none⟩ = some (.int .i64 a0_1) ∧ w'.cell? ⟨w4.heap.size, 2, none⟩ = some (.slice A4_0 a0_2.length c4_0) ∧ w'.cell? ⟨w.heap.size, 0, none⟩ = some (.int .i64 a0_0) ∧ w'.cell? ⟨w.heap.size, 1, none⟩ = some (.int .i64 a0_1) ∧ w'.cell? ⟨w.heap.size, 2, none⟩ = some (.slice Aa0_2 a0_2.length ca0_2)) (first | go_keep | ((try go_split_ands); (try dsimp only); (repeat' apply And.intro) <;> (first | go_keep | ((refine (hc9 _ _ ?_).trans ?_) <;> first | assumption | omega | (simp <;> omega)) | ((refine (hc8 _ _ ?_).trans ?_) <;> first | assumption | omega | (simp <;> omega)))))
      (first
        | (go_at_call 14; ((with_reducible refine (toKeyBook_any a0_0 a0_1 a0_2 Aa0_2 ca0_2 _ (((h0_0.below B7 (Nat.le_refl _))).drew) (by omega)).mono ?_); rintro e w8 ⟨A8_0, c8_0, rfl, o8_0, hb8⟩; (have s8 : w7.heap.size ≤ w8.heap.size := by have := hb8.size; simpa using this); (have B8 : Below w.heap.size w w8 := ((B7).drew).trans (hb8.mono (by first | omega | (simp <;> omega)))); (have k1_0v8 := ((k1_0v7).drew).st hb8); (have o3_0_0v8 := ((o3_0_0v7).drew).st hb8); (have k4_0v8 := ((k4_0v7).drew).st hb8); (have o3_1_0v8 := ((o3_1_0v7).drew).st hb8); (have o4_0v8 := ((o4_0v7).drew).st hb8); (have k5_0v8 := ((k5_0v7).drew).st hb8); (have o5_0_0v8 := ((o5_0_0v7).drew).st hb8); (have k6_0v8 := ((k6_0v7).drew).st hb8); (have o5_1_0v8 := ((o5_1_0v7).drew).st hb8); (have hc8 := (bcell hb8).1)))
        | (go_at_call 16; ((with_reducible refine (eqKeyBook_b a0_0 a0_1 a0_2 A4_0 c4_0 a0_0 a0_1 a0_2 A8_0 c8_0 _ ((o4_0v8).rd') ((o8_0).rd') (by omega) (by omega)).mono ?_); rintro e w9 ⟨rfl, hb9⟩; (have s9 : w8.heap.size ≤ w9.heap.size := by have := hb9.size; simpa using this); (have B9 : Below w.heap.size w w9 := (B8).trans (hb9.mono (by first | omega | (simp <;> omega)))); (have k1_0v9 := (k1_0v8).st hb9); (have o3_0_0v9 := (o3_0_0v8).st hb9); (have k4_0v9 := (k4_0v8).st hb9); (have o3_1_0v9 := (o3_1_0v8).st hb9); (have o4_0v9 := (o4_0v8).st hb9); (have k5_0v9 := (k5_0v8).st hb9); (have o5_0_0v9 := (o5_0_0v8).st hb9); (have k6_0v9 := (k6_0v8).st hb9); (have o5_1_0v9 := (o5_1_0v8).st hb9); (have o8_0v9 := (o8_0).st hb9); (have hc9 := (bcell hb9).1))))
    clear xk5_0v7 ck5_0v7_0 ck5_0v7_1 ck5_0v7_2 xk1_0v7 ck1_0v7_0 ck1_0v7_1 ck1_0v7_2
    have xk5_0v9 := k5_0v9.lt
    have ck5_0v9_0 := k5_0v9.cell 0
    simp at ck5_0v9_0
    have ck5_0v9_1 := k5_0v9.cell 1
    simp at ck5_0v9_1
    have ck5_0v9_2 := k5_0v9.cell 2
    simp at ck5_0v9_2
    go_wp2_with fail
    ((with_reducible refine (markKeyBook_b a0_0 a0_1 a0_2 A4_0 c4_0 1 _ o4_0v9 (by omega) (by omega)).mono ?_); rintro e w10 ⟨rfl, f10_0, hb10⟩)
    have s10 : w9.heap.size ≤ w10.heap.size := by have := hb10.size; simpa using this
    have B10 : Below w.heap.size w w10 := (B9).trans (hb10.below (by first | omega | (simp <;> omega)) (by first | omega | (simp <;> omega)))
    have k1_0v10 := (k1_0v9).fr hb10 (by first | omega | (simp <;> omega))
    have o3_0_0v10 := (o3_0_0v9).fr hb10 (by first | omega | (simp <;> omega))
    have k4_0v10 := (k4_0v9).fr hb10 (by first | omega | (simp <;> omega))
    have o3_1_0v10 := (o3_1_0v9).fr hb10 (by first | omega | (simp <;> omega))
    have k5_0v10 := (k5_0v9).fr hb10 (by first | omega | (simp <;> omega))
    have o5_0_0v10 := (o5_0_0v9).fr hb10 (by first | omega | (simp <;> omega))
    have k6_0v10 := (k6_0v9).fr hb10 (by first | omega | (simp <;> omega))
    have o5_1_0v10 := (o5_1_0v9).fr hb10 (by first | omega | (simp <;> omega))
    clear k1_0v9 o3_0_0v9 k4_0v9 o3_1_0v9 k5_0v9 o5_0_0v9 k6_0v9 o5_1_0v9 xk5_0v9 ck5_0v9_0 ck5_0v9_1 ck5_0v9_2
    have xk6_0v10 := k6_0v10.lt
    have ck6_0v10_0 := k6_0v10.cell 0
    simp at ck6_0v10_0
    have ck6_0v10_1 := k6_0v10.cell 1
    simp at ck6_0v10_1
    have ck6_0v10_2 := k6_0v10.cell 2
    simp at ck6_0v10_2
    have xk4_0v10 := k4_0v10.lt
    have ck4_0v10_0 := k4_0v10.cell 0
    simp at ck4_0v10_0
    have ck4_0v10_1 := k4_0v10.cell 1
    simp at ck4_0v10_1
    have ck4_0v10_2 := k4_0v10.cell 2
    simp at ck4_0v10_2
    go_wp2_with fail
    ((with_reducible refine (eqKeyBook_b (ufK a0_0 a0_1 a0_2 a1_0) (ufG a0_0 a0_1 a0_2 a1_0) (ufL a0_0 a0_1 a0_2 a1_0) A5_0_0 c5_0_0 (ufK a0_0 a0_1 a0_2 a1_0) (ufG a0_0 a0_1 a0_2 a1_0) (ufL a0_0 a0_1 a0_2 a1_0) A3_0_0 c3_0_0 _ ((o5_0_0v10).rd') o3_0_0v10 (by omega) (by omega)).mono ?_); rintro e w11 ⟨rfl, hb11⟩)
    have s11 : w10.heap.size ≤ w11.heap.size := by have := hb11.size; simpa using this
    have B11 : Below w.heap.size w w11 := (B10).trans (hb11.mono (by first | omega | (simp <;> omega)))
    have k1_0v11 := (k1_0v10).st hb11
    have o3_0_0v11 := (o3_0_0v10).st hb11
    have k4_0v11 := (k4_0v10).st hb11
    have o3_1_0v11 := (o3_1_0v10).st hb11
    have o5_0_0v11 := (o5_0_0v10).st hb11
    have k6_0v11 := (k6_0v10).st hb11
    have o5_1_0v11 := (o5_1_0v10).st hb11
    clear k1_0v10 o3_0_0v10 k4_0v10 o3_1_0v10 o5_0_0v10 k6_0v10 o5_1_0v10 xk6_0v10 ck6_0v10_0 ck6_0v10_1 ck6_0v10_2 xk4_0v10 ck4_0v10_0 ck4_0v10_1 ck4_0v10_2
    go_wp2_with fail
    ((with_reducible refine (eqIntS_b (ufN a0_0 a0_1 a0_2 a1_0) A5_1_0 c5_1_0 (ufN a0_0 a0_1 a0_2 a1_0) A3_1_0 c3_1_0 _ ((o5_1_0v11).rd') o3_1_0v11 (by omega) (by omega)).mono ?_); rintro e w12 ⟨rfl, hb12⟩)
    have s12 : w11.heap.size ≤ w12.heap.size := by have := hb12.size; simpa using this
    have B12 : Below w.heap.size w w12 := (B11).trans (hb12.mono (by first | omega | (simp <;> omega)))
    have k1_0v12 := (k1_0v11).st hb12
    have o3_0_0v12 := (o3_0_0v11).st hb12
    have k4_0v12 := (k4_0v11).st hb12
    have o3_1_0v12 := (o3_1_0v11).st hb12
    have o5_0_0v12 := (o5_0_0v11).st hb12
    have k6_0v12 := (k6_0v11).st hb12
    have o5_1_0v12 := (o5_1_0v11).st hb12
    clear k1_0v11 o3_0_0v11 k4_0v11 o3_1_0v11 o5_0_0v11 k6_0v11 o5_1_0v11
    have xk6_0v12 := k6_0v12.lt
    have ck6_0v12_0 := k6_0v12.cell 0
    simp at ck6_0v12_0
    have ck6_0v12_1 := k6_0v12.cell 1
    simp at ck6_0v12_1
    have ck6_0v12_2 := k6_0v12.cell 2
    simp at ck6_0v12_2
    go_wp2_with fail
    ((with_reducible refine (markKeyBook_b (ufK a0_0 a0_1 a0_2 a1_0) (ufG a0_0 a0_1 a0_2 a1_0) (ufL a0_0 a0_1 a0_2 a1_0) A5_0_0 c5_0_0 1 _ o5_0_0v12 (by omega) (by omega)).mono ?_); rintro e w13 ⟨rfl, f13_0, hb13⟩)
    have s13 : w12.heap.size ≤ w13.heap.size := by have := hb13.size; simpa using this
    have B13 : Below w.heap.size w w13 := (B12).trans (hb13.below (by first | omega | (simp <;> omega)) (by first | omega | (simp <;> omega)))
    have k1_0v13 := (k1_0v12).fr hb13 (by first | omega | (simp <;> omega))
    have o3_0_0v13 := (o3_0_0v12).fr hb13 (by first | omega | (simp <;> omega))
    have k4_0v13 := (k4_0v12).fr hb13 (by first | omega | (simp <;> omega))
    have o3_1_0v13 := (o3_1_0v12).fr hb13 (by first | omega | (simp <;> omega))
    have k6_0v13 := (k6_0v12).fr hb13 (by first | omega | (simp <;> omega))
    have o5_1_0v13 := (o5_1_0v12).fr hb13 (by first | omega | (simp <;> omega))
    clear k1_0v12 o3_0_0v12 k4_0v12 o3_1_0v12 k6_0v12 o5_1_0v12 xk6_0v12 ck6_0v12_0 ck6_0v12_1 ck6_0v12_2
    go_wp2_with fail
    ((with_reducible refine (markIntS_b (ufN a0_0 a0_1 a0_2 a1_0) A5_1_0 c5_1_0 (1 + ((ufL a0_0 a0_1 a0_2 a1_0).length : Int)) _ o5_1_0v13 (by omega) (by omega)).mono ?_); rintro e w14 ⟨rfl, f14_0, hb14⟩)
    have s14 : w13.heap.size ≤ w14.heap.size := by have := hb14.size; simpa using this
    have B14 : Below w.heap.size w w14 := (B13).trans (hb14.below (by first | omega | (simp <;> omega)) (by first | omega | (simp <;> omega)))
    have k1_0v14 := (k1_0v13).fr hb14 (by first | omega | (simp <;> omega))
    have o3_0_0v14 := (o3_0_0v13).fr hb14 (by first | omega | (simp <;> omega))
    have k4_0v14 := (k4_0v13).fr hb14 (by first | omega | (simp <;> omega))
    have o3_1_0v14 := (o3_1_0v13).fr hb14 (by first | omega | (simp <;> omega))
    have f13_0v14 := (f13_0).fr hb14 (by first | omega | (simp <;> omega))
    have k6_0v14 := (k6_0v13).fr hb14 (by first | omega | (simp <;> omega))
    clear k1_0v13 o3_0_0v13 k4_0v13 o3_1_0v13 f13_0 k6_0v13
    have xk6_0v14 := k6_0v14.lt
    have ck6_0v14_0 := k6_0v14.cell 0
    simp at ck6_0v14_0
    have ck6_0v14_1 := k6_0v14.cell 1
    simp at ck6_0v14_1
    have ck6_0v14_2 := k6_0v14.cell 2
    simp at ck6_0v14_2
    go_wp2_with fail
    ((with_reducible refine (heldKeyBook_b (ufK a0_0 a0_1 a0_2 a1_0) (ufG a0_0 a0_1 a0_2 a1_0) (ufL a0_0 a0_1 a0_2 a1_0) A5_0_0 c5_0_0 1 _ ((f13_0v14).rd') (by omega) (by omega)).mono ?_); rintro e w15 ⟨rfl, hb15⟩)
    have s15 : w14.heap.size ≤ w15.heap.size := by have := hb15.size; simpa using this
    have B15 : Below w.heap.size w w15 := (B14).trans (hb15.mono (by first | omega | (simp <;> omega)))
    have k1_0v15 := (k1_0v14).st hb15
    have o3_0_0v15 := (o3_0_0v14).st hb15
    have k4_0v15 := (k4_0v14).st hb15
    have o3_1_0v15 := (o3_1_0v14).st hb15
    have f13_0v15 := (f13_0v14).st hb15
    have k6_0v15 := (k6_0v14).st hb15
    have f14_0v15 := (f14_0).st hb15
    clear k1_0v14 o3_0_0v14 k4_0v14 o3_1_0v14 f13_0v14 k6_0v14 f14_0 xk6_0v14 ck6_0v14_0 ck6_0v14_1 ck6_0v14_2
    go_wp2_with fail
    ((with_reducible refine (heldIntS_b (ufN a0_0 a0_1 a0_2 a1_0) A5_1_0 c5_1_0 (1 + ((ufL a0_0 a0_1 a0_2 a1_0).length : Int)) _ ((f14_0v15).rd') (by omega) (by omega)).mono ?_); rintro e w16 ⟨rfl, hb16⟩)
    have s16 : w15.heap.size ≤ w16.heap.size := by have := hb16.size; simpa using this
    have B16 : Below w.heap.size w w16 := (B15).trans (hb16.mono (by first | omega | (simp <;> omega)))
    have k1_0v16 := (k1_0v15).st hb16
    have o3_0_0v16 := (o3_0_0v15).st hb16
    have k4_0v16 := (k4_0v15).st hb16
    have o3_1_0v16 := (o3_1_0v15).st hb16
    have f13_0v16 := (f13_0v15).st hb16
    have k6_0v16 := (k6_0v15).st hb16
    have f14_0v16 := (f14_0v15).st hb16
    clear k1_0v15 o3_0_0v15 k4_0v15 o3_1_0v15 f13_0v15 k6_0v15 f14_0v15
    have xk1_0v16 := k1_0v16.lt
    have ck1_0v16_0 := k1_0v16.cell 0
    simp at ck1_0v16_0
    have ck1_0v16_1 := k1_0v16.cell 1
    simp at ck1_0v16_1
    have ck1_0v16_2 := k1_0v16.cell 2
    simp at ck1_0v16_2
    go_wp2_with fail
    ((with_reducible refine (toKeyBook_any a0_0 a0_1 a0_2 Aa0_2 ca0_2 _ ((h0_0.below B16 (Nat.le_refl _))) (by omega)).mono ?_); rintro e w17 ⟨A17_0, c17_0, rfl, o17_0, hb17⟩)
    have s17 : w16.heap.size ≤ w17.heap.size := by have := hb17.size; simpa using this
    have B17 : Below w.heap.size w w17 := (B16).trans (hb17.mono (by first | omega | (simp <;> omega)))
    have k1_0v17 := (k1_0v16).st hb17
    have o3_0_0v17 := (o3_0_0v16).st hb17
    have k4_0v17 := (k4_0v16).st hb17
    have o3_1_0v17 := (o3_1_0v16).st hb17
    have f13_0v17 := (f13_0v16).st hb17
    have k6_0v17 := (k6_0v16).st hb17
    have f14_0v17 := (f14_0v16).st hb17
    clear k1_0v16 o3_0_0v16 k4_0v16 o3_1_0v16 f13_0v16 k6_0v16 f14_0v16 xk1_0v16 ck1_0v16_0 ck1_0v16_1 ck1_0v16_2
    go_wp2_with fail
    ((with_reducible refine (iUseForLength_any a0_0 a0_1 a0_2 A17_0 c17_0 a1_0 _ ((o17_0).rd') (by omega) ).mono ?_); rintro e w18 ⟨A18_0_0, c18_0_0, A18_1_0, c18_1_0, il18_0, ir18_0, il18_1, ir18_1, rfl, o18_0_0, o18_1_0, ⟨ib18_0, ib18_1, ib18_2, ib18_3, ib18_4⟩, l18_0, l18_1, hb18⟩)
    have s18 : w17.heap.size ≤ w18.heap.size := by have := hb18.size; simpa using this
    have B18 : Below w.heap.size w w18 := (B17).trans (hb18.mono (by first | omega | (simp <;> omega)))
    have k1_0v18 := (k1_0v17).st hb18
    have o3_0_0v18 := (o3_0_0v17).st hb18
    have k4_0v18 := (k4_0v17).st hb18
    have o3_1_0v18 := (o3_1_0v17).st hb18
    have f13_0v18 := (f13_0v17).st hb18
    have k6_0v18 := (k6_0v17).st hb18
    have f14_0v18 := (f14_0v17).st hb18
    have o17_0v18 := (o17_0).st hb18
    clear k1_0v17 o3_0_0v17 k4_0v17 o3_1_0v17 f13_0v17 k6_0v17 f14_0v17 o17_0
    have jb18_0 : w17.heap.size ≤ il18_0 := by simpa using ib18_0
    have jb18_1 : w17.heap.size ≤ il18_1 := by simpa using ib18_2
    have xk4_0v18 := k4_0v18.lt
    have ck4_0v18_0 := k4_0v18.cell 0
    simp at ck4_0v18_0
    have ck4_0v18_1 := k4_0v18.cell 1
    simp at ck4_0v18_1
    have ck4_0v18_2 := k4_0v18.cell 2
    simp at ck4_0v18_2
    go_wp2_with fail
    ((with_reducible refine (eqKeyBook_b (ufK a0_0 a0_1 a0_2 a1_0) (ufG a0_0 a0_1 a0_2 a1_0) (ufL a0_0 a0_1 a0_2 a1_0) A18_0_0 c18_0_0 (ufK a0_0 a0_1 a0_2 a1_0) (ufG a0_0 a0_1 a0_2 a1_0) (ufL a0_0 a0_1 a0_2 a1_0) A3_0_0 c3_0_0 _ (((o18_0_0).alloc _).rd') ((o3_0_0v18).alloc _) (by omega) (by omega)).mono ?_); rintro e w19 ⟨rfl, hb19⟩)
    have s19 : w18.heap.size + 1 ≤ w19.heap.size := by have := hb19.size; simpa using this
    have B19 : Below w.heap.size w w19 := ((B18).alloc (by first | omega | (simp <;> omega)) _).trans (hb19.mono (by first | omega | (simp <;> omega)))
    have k1_0v19 := ((k1_0v18).alloc _).st hb19
    have o3_0_0v19 := ((o3_0_0v18).alloc _).st hb19
    have k4_0v19 := ((k4_0v18).alloc _).st hb19
    have o3_1_0v19 := ((o3_1_0v18).alloc _).st hb19
    have f13_0v19 := ((f13_0v18).alloc _).st hb19
    have k6_0v19 := ((k6_0v18).alloc _).st hb19
    have f14_0v19 := ((f14_0v18).alloc _).st hb19
    have o18_0_0v19 := ((o18_0_0).alloc _).st hb19
    have k19_0 := (Bk.new w18 _ _).st hb19
    have o18_1_0v19 := ((o18_1_0).alloc _).st hb19
    clear k1_0v18 o3_0_0v18 k4_0v18 o3_1_0v18 f13_0v18 k6_0v18 f14_0v18 o18_0_0 o18_1_0 xk4_0v18 ck4_0v18_0 ck4_0v18_1 ck4_0v18_2
    go_wp2_with fail
    ((with_reducible refine (eqIntS_b (ufN a0_0 a0_1 a0_2 a1_0) A18_1_0 c18_1_0 (ufN a0_0 a0_1 a0_2 a1_0) A3_1_0 c3_1_0 _ ((o18_1_0v19).rd') o3_1_0v19 (by omega) (by omega)).mono ?_); rintro e w20 ⟨rfl, hb20⟩)
    have s20 : w19.heap.size ≤ w20.heap.size := by have := hb20.size; simpa using this
    have B20 : Below w.heap.size w w20 := (B19).trans (hb20.mono (by first | omega | (simp <;> omega)))
    have k1_0v20 := (k1_0v19).st hb20
    have o3_0_0v20 := (o3_0_0v19).st hb20
    have k4_0v20 := (k4_0v19).st hb20
    have o3_1_0v20 := (o3_1_0v19).st hb20
    have f13_0v20 := (f13_0v19).st hb20
    have k6_0v20 := (k6_0v19).st hb20
    have f14_0v20 := (f14_0v19).st hb20
    have o18_0_0v20 := (o18_0_0v19).st hb20
    have k19_0v20 := (k19_0).st hb20
    have o18_1_0v20 := (o18_1_0v19).st hb20
    clear k1_0v19 o3_0_0v19 k4_0v19 o3_1_0v19 f13_0v19 k6_0v19 f14_0v19 o18_0_0v19 k19_0 o18_1_0v19
    have xk6_0v20 := k6_0v20.lt
    have ck6_0v20_0 := k6_0v20.cell 0
    simp at ck6_0v20_0
    have ck6_0v20_1 := k6_0v20.cell 1
    simp at ck6_0v20_1
    have ck6_0v20_2 := k6_0v20.cell 2
    simp at ck6_0v20_2
    go_wp2_with fail
    ((with_reducible refine (heldKeyBook_b (ufK a0_0 a0_1 a0_2 a1_0) (ufG a0_0 a0_1 a0_2 a1_0) (ufL a0_0 a0_1 a0_2 a1_0) A5_0_0 c5_0_0 1 _ ((f13_0v20).rd') (by omega) (by omega)).mono ?_); rintro e w21 ⟨rfl, hb21⟩)
    have s21 : w20.heap.size ≤ w21.heap.size := by have := hb21.size; simpa using this
    have B21 : Below w.heap.size w w21 := (B20).trans (hb21.mono (by first | omega | (simp <;> omega)))
    have k1_0v21 := (k1_0v20).st hb21
    have o3_0_0v21 := (o3_0_0v20).st hb21
    have k4_0v21 := (k4_0v20).st hb21
    have o3_1_0v21 := (o3_1_0v20).st hb21
    have f13_0v21 := (f13_0v20).st hb21
    have k6_0v21 := (k6_0v20).st hb21
    have f14_0v21 := (f14_0v20).st hb21
    have o18_0_0v21 := (o18_0_0v20).st hb21
    have k19_0v21 := (k19_0v20).st hb21
    have o18_1_0v21 := (o18_1_0v20).st hb21
    clear k1_0v20 o3_0_0v20 k4_0v20 o3_1_0v20 f13_0v20 k6_0v20 f14_0v20 o18_0_0v20 k19_0v20 o18_1_0v20 xk6_0v20 ck6_0v20_0 ck6_0v20_1 ck6_0v20_2
    go_wp2_with fail
    ((with_reducible refine (heldIntS_b (ufN a0_0 a0_1 a0_2 a1_0) A5_1_0 c5_1_0 (1 + ((ufL a0_0 a0_1 a0_2 a1_0).length : Int)) _ ((f14_0v21).rd') (by omega) (by omega)).mono ?_); rintro e w22 ⟨rfl, hb22⟩)
    have s22 : w21.heap.size ≤ w22.heap.size := by have := hb22.size; simpa using this
    have B22 : Below w.heap.size w w22 := (B21).trans (hb22.mono (by first | omega | (simp <;> omega)))
    have k1_0v22 := (k1_0v21).st hb22
    have o3_0_0v22 := (o3_0_0v21).st hb22
    have k4_0v22 := (k4_0v21).st hb22
    have o3_1_0v22 := (o3_1_0v21).st hb22
    have f13_0v22 := (f13_0v21).st hb22
    have k6_0v22 := (k6_0v21).st hb22
    have f14_0v22 := (f14_0v21).st hb22
    have o18_0_0v22 := (o18_0_0v21).st hb22
    have k19_0v22 := (k19_0v21).st hb22
    have o18_1_0v22 := (o18_1_0v21).st hb22
    clear k1_0v21 o3_0_0v21 k4_0v21 o3_1_0v21 f13_0v21 k6_0v21 f14_0v21 o18_0_0v21 k19_0v21 o18_1_0v21
    go_wp2_with fail
    go_ret
    exact ⟨rfl, B22⟩
  · go_enter Try.func7, Try.ntmps7
    go_wp2_with fail
    ((with_reducible refine (szKeyBook_no a0_0 a0_1 a0_2 Aa0_2 ca0_2 1048576 _ (by omega) l0_0 (by omega)).mono ?_); rintro e w1 ⟨rfl, hb1⟩)
    have s1 : w.heap.size + 1 ≤ w1.heap.size := by have := hb1.size; simpa using this
    have B1 : Below w.heap.size w w1 := (((Below.refl w.heap.size w)).alloc (by first | omega | (simp <;> omega)) _).trans (hb1.mono (by first | omega | (simp <;> omega)))
    have k1_0 := (Bk.new w _ _).st hb1
    go_wp2_with fail
    go_ret
    exact ⟨rfl, B1⟩

end Go.Proofs.Ytdonggpcabkmlaa.fnExactUseForLength
